/- The plain law: what the functions that the law compares make is the same, over lists and numbers alone. -/
import Derived.Test.YtgmmgbdohkdinaaDoorQuotesWalk2
import Derived.Test.YtgmmgbdohkdinaaDoorEv4
set_option linter.unusedVariables false
set_option linter.unusedSimpArgs false
set_option linter.unusedSectionVars false
set_option maxRecDepth 100000
namespace Go.Proofs.Tryd.S
open Go Go.Ev
theorem loopN_inr {A B : Type} {f : A → Option (A ⊕ B)} {k : Nat} {x : A} {y : B} (h : f x = some (.inr y)) : loopN f (k + 1) x = some y := by
  unfold loopN; rw [h]
theorem loopN_inl {A B : Type} {f : A → Option (A ⊕ B)} {k : Nat} {x x' : A} (h : f x = some (.inl x')) : loopN f (k + 1) x = loopN f k x' := by
  rw [loopN, h]
/-- a loop that goes through its states one by one -/
theorem loopN_iter {A B : Type} {f : A → Option (A ⊕ B)} (st : Nat → A) (n : Nat) (y : B) (h : ∀ i, i < n → f (st i) = some (.inl (st (i + 1)))) (hy : f (st n) = some (.inr y)) : ∀ k, n < k → loopN f k (st 0) = some y := by
  have key : ∀ m i k, i + m = n → m < k → loopN f k (st i) = some y := by
    intro m
    induction m with
    | zero =>
      intro i k hi hk
      obtain ⟨k, rfl⟩ : ∃ k', k = k' + 1 := ⟨k - 1, by omega⟩
      have : i = n := by omega
      subst this
      exact loopN_inr hy
    | succ m ih =>
      intro i k hi hk
      obtain ⟨k, rfl⟩ : ∃ k', k = k' + 1 := ⟨k - 1, by omega⟩
      rw [loopN_inl (h i (by omega))]
      exact ih (i + 1) k (by omega) (by omega)
  intro k hk
  exact key n 0 k (by omega) hk
theorem getD_in {α : Type} {l : List α} {i : Nat} {d : α} (h : i < l.length) : l.getD i d = l[i] := by
  simp [List.getD_eq_getElem?_getD, List.getElem?_eq_getElem h]
theorem take_succ {α : Type} {l : List α} {i : Nat} (h : i < l.length) : l.take (i + 1) = l.take i ++ [l[i]] := by
  rw [List.take_add_one, List.getElem?_eq_getElem h]; rfl
abbrev big : Nat := 140737488351232
theorem bleB {n : Nat} (h : n ≤ big) : (Nat.ble (n * 1) 140737488355328 && Nat.ble n 9223372036854775807) = true := by
  have h : n ≤ 140737488351232 := h
  rw [Nat.ble_eq_true_of_le (by omega), Nat.ble_eq_true_of_le (by omega)]; rfl
theorem u8_eq {a b : Int} (ha : 0 ≤ a) (ha' : a < 256) (hb : 0 ≤ b) (hb' : b < 256) : (UInt8.ofNat a.toNat == b.toNat.toUInt8) = (a == b) := by
  have h1 : (UInt8.ofNat a.toNat).toNat = a.toNat := by rw [UInt8.toNat_ofNat']; omega
  have h2 : (b.toNat.toUInt8).toNat = b.toNat := by rw [Nat.toUInt8, UInt8.toNat_ofNat']; omega
  by_cases e : a = b
  · subst e; simp [Nat.toUInt8]
  · have : ¬ UInt8.ofNat a.toNat = b.toNat.toUInt8 := fun h => by
      have := congrArg UInt8.toNat h
      rw [h1, h2] at this
      omega
    rw [beq_eq_false_iff_ne.2 this, beq_eq_false_iff_ne.2 e]
theorem lt_dec {i n : Nat} (h : i < n) : decide ((i : Int) < (n : Int)) = true := by simp; omega
theorem lt_dec' {n : Nat} : decide ((n : Int) < (n : Int)) = false := by simp
theorem dec0 (p : Nat) : decide ((0 : Int) ≤ (p : Int)) = true := decide_eq_true (by omega)
theorem awakeK (k : Nat) : F12.go (k + 300) = some ((true, ()), (), ()) := by kernel_rfl
theorem loopN_inv {A B : Type} {f : A → Option (A ⊕ B)} (P : Nat → A → Prop) (Q : B → Prop) (n : Nat) (h : ∀ i x, i < n → P i x → ∃ x', f x = some (.inl x') ∧ P (i + 1) x') (hy : ∀ x, P n x → ∃ y, f x = some (.inr y) ∧ Q y) : ∀ k, n < k → ∀ x, P 0 x → ∃ y, loopN f k x = some y ∧ Q y := by
  have key : ∀ m i k x, i + m = n → m < k → P i x → ∃ y, loopN f k x = some y ∧ Q y := by
    intro m
    induction m with
    | zero =>
      intro i k x hi hk hp
      obtain ⟨k, rfl⟩ : ∃ k', k = k' + 1 := ⟨k - 1, by omega⟩
      have : i = n := by omega
      subst this
      obtain ⟨y, h1, h2⟩ := hy x hp
      exact ⟨y, loopN_inr h1, h2⟩
    | succ m ih =>
      intro i k x hi hk hp
      obtain ⟨k, rfl⟩ : ∃ k', k = k' + 1 := ⟨k - 1, by omega⟩
      obtain ⟨x', h1, h2⟩ := h i x (by omega) hp
      rw [loopN_inl h1]
      exact ih (i + 1) k x' (by omega) (by omega) h2
  intro k hk x hx
  exact key n 0 k x (by omega) hk hx
def OkB (x : Option ((Bool × Unit) × Unit × Unit)) : Prop := ∃ b, x = some ((b, ()), (), ())
theorem OkB.leaf (b : Bool) : OkB (some ((b, ()), (), ())) := ⟨b, rfl⟩
theorem OkB.ite {c : Bool} {x y : Option ((Bool × Unit) × Unit × Unit)} (hx : OkB x) (hy : OkB y) : OkB (bif c then x else y) := by
  cases c
  · exact hy
  · exact hx
theorem F66_tot (k : Nat) (a : Int) : ∃ v, F66.go k a = some ((v, ()), (), ()) := by
  unfold F66.go
  cases decide (a ≥ 65)
  · exact ⟨_, rfl⟩
  · cases decide (a ≤ 90)
    · exact ⟨_, rfl⟩
    · exact ⟨_, rfl⟩
theorem F97_tot (k : Nat) (a : Int) : ∃ v, F97.go k a = some ((v, ()), (), ()) := by
  unfold F97.go
  cases decide (a ≥ 97)
  · exact ⟨_, rfl⟩
  · cases decide (a ≤ 122)
    · exact ⟨_, rfl⟩
    · exact ⟨_, rfl⟩
theorem OkB.b66 {k : Nat} {a : Int} {f : (Int × Unit) × Unit × Unit → Option ((Bool × Unit) × Unit × Unit)} (h : ∀ y, OkB (f y)) : OkB ((F66.go k a).bind f) := by
  obtain ⟨v, hv⟩ := F66_tot k a
  rw [hv]; exact h _
theorem F47_tot (k : Nat) (a : ByteArray) (x : Int) : OkB (F47.go k a x) := by
  unfold F47.go
  repeat' (first | apply OkB.ite | (apply OkB.b66; intro y) | exact OkB.leaf _)
theorem F18_tot (k : Nat) (a : ByteArray) (hk : 256 < k) : (∃ e, F18.go k a = some (.inl ((((), e, ()), ()), (), ()))) ∨ (∃ e l, F18.go k a = some (.inr ((((), e, ()), ()), (l, ()), ())) ∧ l.length ≤ 256) := by
  obtain ⟨y, h1, l, h2, h3⟩ := loopN_inv (f := F18.s58 k) (fun i x => ∃ l : List Int, x = (((i : Int), (), a, ()), (l, ()), ()) ∧ l.length ≤ i) (fun y => ∃ l : List Int, y = (((), ()), (l, ()), ()) ∧ l.length ≤ 256) 256
    (fun i x hi ⟨l, hx, hl⟩ => by
      subst hx
      obtain ⟨b, hb⟩ := F47_tot k a (IntKind.u8.wrap (i : Int))
      have h1 : decide ((i : Int) < 256) = true := decide_eq_true (by omega)
      have hw : IntKind.i64.wrap ((i : Int) + 1) = ((i + 1 : Nat) : Int) := by rw [wrap_id (by omega) (by omega)]; rfl
      simp only [F18.s58, F18.go58, h1, cond_true, hb, Option.bind_some, hw]
      cases b
      · exact ⟨_, rfl, l, rfl, by omega⟩
      · rw [bleB (show (l ++ [IntKind.u8.wrap (i : Int)]).length ≤ big by rw [List.length_append, List.length_singleton]; show _ ≤ 140737488351232; omega)]
        exact ⟨_, rfl, _, rfl, by rw [List.length_append, List.length_singleton]; omega⟩)
    (fun x ⟨l, hx, hl⟩ => by
      subst hx
      exact ⟨_, rfl, l, rfl, hl⟩) k hk ((0, (), a, ()), ([], ()), ()) ⟨[], rfl, Nat.le_refl _⟩
  unfold F18.go F18.l_58
  rw [h1, h2, Option.bind_some]
  cases hn : Nat.beq l.length 0
  · right; exact ⟨0, l, by rw [cond_false], h3⟩
  · left; exact ⟨22, by rw [cond_true]⟩
theorem F79_8 (k : Nat) (f : Int) : ∃ b, F79.go k f 8 = some ((b, ()), (), ()) := ⟨_, rfl⟩
theorem F96_tot (k : Nat) (lo hi c fl : Int) (fo : Bool) (hk : 3 < k) : ∃ fo', F96.go k lo hi c fl fo = some (((), ()), ((c, ()), (fl, ()), (fo', ()), ()), ()) := by
  obtain ⟨u, hu⟩ := F66_tot k c
  obtain ⟨v, hv⟩ := F97_tot k c
  obtain ⟨y, h1, fo', h2⟩ := loopN_inv (f := F96.s6 k) (fun i x => ∃ fo : Bool, x = (((i : Int), (), (), (), hi, lo, (c, u, v, ()), ()), ((c, ()), (fl, ()), (fo, ()), ()), ())) (fun y => ∃ fo : Bool, y = ((), ((c, ()), (fl, ()), (fo, ()), ()), ())) 3
    (fun i x hi' ⟨fo, hx⟩ => by
      subst hx
      obtain ⟨b, hb⟩ := F79_8 k fl
      have h1 : decide ((i : Int) < 3) = true := decide_eq_true (by omega)
      have h0 : decide ((0 : Int) ≤ (i : Int)) = true := decide_eq_true (by omega)
      have hw : IntKind.i64.wrap ((i : Int) + 1) = ((i + 1 : Nat) : Int) := by rw [wrap_id (by omega) (by omega)]; rfl
      simp only [F96.s6, F96.go6, h0, h1, Bool.true_and, cond_true, hb, Option.bind_some, hw]
      cases decide ([c, u, v].getD (i : Int).toNat 0 ≥ lo)
      · exact ⟨_, rfl, _, rfl⟩
      · cases decide ([c, u, v].getD (i : Int).toNat 0 ≤ hi)
        · exact ⟨_, rfl, _, rfl⟩
        · cases ([c, u, v].getD (i : Int).toNat 0 == c)
          · cases b
            · exact ⟨_, rfl, _, rfl⟩
            · exact ⟨_, rfl, _, rfl⟩
          · exact ⟨_, rfl, _, rfl⟩)
    (fun x ⟨fo, hx⟩ => by
      subst hx
      exact ⟨_, rfl, fo, rfl⟩) k hk ((0, (), (), (), hi, lo, (c, u, v, ()), ()), ((c, ()), (fl, ()), (fo, ()), ()), ()) ⟨fo, rfl⟩
  refine ⟨fo', ?_⟩
  unfold F96.go F96.l_6
  rw [hu, hv]
  simp only [Option.bind_some]
  rw [h1, h2]; rfl
theorem F77_tot (k : Nat) (fl : Int) (p : ByteArray) (hp : 0 < p.size) : ∃ (b : Int) (n : Nat), F77.go k fl p = some (((b, (n : Int), ()), ()), (), ()) ∧ 1 ≤ n ∧ n ≤ p.size := by
  have h0 : decide ((0 : Int) < (p.size : Int)) = true := decide_eq_true (by omega)
  unfold F77.go
  rw [h0]
  simp only [cond_true]
  cases ((p.data.getD 0 (OfNat.ofNat 0)).toNat : Int) == 92
  · exact ⟨_, 1, rfl, by omega, by omega⟩
  · by_cases h1 : 1 < p.size
    · have h2 : decide ((p.size : Int) > 1) = true := decide_eq_true (by omega)
      rw [h2]
      obtain ⟨b, hb⟩ : ∃ b, F79.go k fl 4 = some ((b, ()), (), ()) := ⟨_, rfl⟩
      rw [hb, Option.bind_some]
      cases b
      · exact ⟨_, 2, rfl, by omega, by omega⟩
      · exact ⟨_, 1, rfl, by omega, by omega⟩
    · have h2 : decide ((p.size : Int) > 1) = false := decide_eq_false (by omega)
      rw [h2]
      exact ⟨_, 1, rfl, by omega, by omega⟩
theorem ext_size (a : ByteArray) (i : Nat) : (a.extract i a.size).size = a.size - i := by
  rw [ByteArray.size_extract]; omega
theorem F86_tot (k : Nat) (p q : ByteArray) : ∃ b, F86.go k p q = some ((b, ()), (), ()) ∧ (b = true → q.size ≤ p.size) := by
  unfold F86.go F101.go
  by_cases h : q.size ≤ p.size
  · have h1 : decide ((p.size : Int) ≥ (q.size : Int)) = true := decide_eq_true (by omega)
    have h2 : decide ((q.size : Int) ≤ (p.size : Int)) = true := decide_eq_true (by omega)
    have h3 : decide ((0 : Int) ≤ (q.size : Int)) = true := decide_eq_true (by omega)
    rw [h1, h3]
    exact ⟨_, rfl, fun _ => h⟩
  · have h1 : decide ((p.size : Int) ≥ (q.size : Int)) = false := decide_eq_false (by omega)
    rw [h1]
    exact ⟨false, rfl, fun h => absurd h (by decide)⟩
theorem index_fit (sub : List UInt8) : ∀ s : List UInt8, 0 ≤ Lib.index s sub → (Lib.index s sub).toNat + sub.length ≤ s.length
  | [], h => by
    cases sub with
    | nil => decide
    | cons a r => exact absurd h (by show ¬ (0 : Int) ≤ -1; decide)
  | c :: s, h => by
    have ih := index_fit sub s
    unfold Lib.index at h ⊢
    by_cases h1 : sub.isPrefixOf (c :: s) = true
    · rw [if_pos h1] at h ⊢
      have := (List.isPrefixOf_iff_prefix.1 h1).length_le
      simpa using this
    · rw [if_neg h1] at h ⊢
      have hg := Lib.index_ge s sub
      by_cases h2 : (Lib.index s sub == -1) = true
      · rw [if_pos h2] at h; exact absurd h (by decide)
      · rw [if_neg h2] at h ⊢
        have h3 : Lib.index s sub ≠ -1 := by simpa using h2
        have := ih (by omega)
        rw [List.length_cons]; omega
theorem cut_fit (s sep : ByteArray) (h : cutC s sep = true) : (cutA s sep).size + sep.size ≤ s.size := by
  unfold cutC Lib.cut at h
  by_cases h0 : 0 ≤ Lib.index s.data.toList sep.data.toList
  · have := index_fit _ _ h0
    have e1 : s.size = s.data.toList.length := rfl
    have e2 : sep.size = sep.data.toList.length := rfl
    have e3 : (cutA s sep).size = ((s.data.toList).take (Lib.index s.data.toList sep.data.toList).toNat).length := by
      unfold cutA Lib.cut; rw [if_pos h0]; rfl
    rw [e1, e2, e3, List.length_take]; omega
  · rw [if_neg h0] at h; exact absurd h Bool.false_ne_true
theorem wadd (a b : Nat) (h : a + b ≤ big) : IntKind.i64.wrap ((a : Int) + (b : Int)) = ((a + b : Nat) : Int) := by
  have h' : a + b ≤ 140737488351232 := h
  rw [wrap_id (by omega) (by omega)]; omega
abbrev Res98 := Option ((Bool × Unit) × ((Int × Unit) × (ByteArray × Unit) × ((Unit × Unit × Unit × Unit) × Unit) × ((Unit × Unit × Unit × Unit × Unit × Unit) × Unit) × (Int × Unit) × (Int × Unit) × (Bool × Unit) × Unit) × Unit)
def Tot (F : Int → Bool → Res98) (lo : Nat) (p : ByteArray) (fl : Int) : Prop := ∃ (r : Bool) (j : Nat), lo ≤ j ∧ j ≤ p.size ∧ ∀ c fo, ∃ fo', F c fo = some (F98.r r (j : Int) p fl c fo')
abbrev arg98 (fi : Bool) (i : Nat) (p : ByteArray) (fl c : Int) (fo : Bool) : F98.tin.T := ((fi, (), (), (), (), (), ()), (((i : Int), ()), (p, ()), (((), (), (), ()), ()), (((), (), (), (), (), ()), ()), (fl, ()), (c, ()), (fo, ()), ()), ())
theorem F98_leaf (k : Nat) (hk : 3 < k) (r98 : F98.tin.T → Option (ESum F98.outs)) (p : ByteArray) (fl lo hi : Int) (i i' : Nat) (hii : i ≤ i')
    (h : Tot (fun c fo => r98 (arg98 false i' p fl c fo)) i' p fl) (G : Int → Bool → Res98)
    (hG : ∀ c fo fo', F96.go k lo hi c fl fo = some (((), ()), ((c, ()), (fl, ()), (fo', ()), ()), ()) → ∀ r j fo'', r98 (arg98 false i' p fl c fo') = some (F98.r r j p fl c fo'') → G c fo = some (F98.r r j p fl c fo'')) :
    Tot G i p fl := by
  obtain ⟨r, j, h1, h2, h3⟩ := h
  refine ⟨r, j, by omega, h2, fun c fo => ?_⟩
  obtain ⟨fo', h4⟩ := F96_tot k lo hi c fl fo hk
  obtain ⟨fo'', h5⟩ := h3 c fo'
  exact ⟨fo'', hG c fo fo' h4 r j fo'' h5⟩
theorem F98_15 (k : Nat) (hk : 3 < k) (r98 : F98.tin.T → Option (ESum F98.outs)) (p : ByteArray) (hp : p.size ≤ 4000000000) (fl : Int) (i : Nat) (hi : i < p.size)
    (h : ∀ i', i < i' → i' ≤ p.size → Tot (fun c fo => r98 (arg98 false i' p fl c fo)) i' p fl) : Tot (fun c fo => F98.go15 k r98 (i : Int) p fl c fo) i p fl := by
  have hz : (p.extract i p.size).size = p.size - i := ext_size p i
  obtain ⟨lo, n, hn, h1, h2⟩ := F77_tot k fl (p.extract i p.size) (by omega)
  have hw1 := wadd i n (by show _ ≤ 140737488351232; omega)
  have hw2 := wadd (i + n) 1 (by show _ ≤ 140737488351232; omega)
  have d0 : decide ((i : Int) ≤ (p.size : Int)) = true := decide_eq_true (by omega)
  have d1 := dec0 i
  have d2 := dec0 (i + n)
  have d3 := dec0 (i + n + 1)
  have e1 : ((1 : Nat) : Int) = 1 := rfl
  rw [e1] at hw2
  have hA := h (i + n) (by omega) (by omega)
  unfold F98.go15
  simp only [d0, d1, Bool.true_and, cond_true, Int.toNat_natCast, hn, Option.bind_some, hw1, hw2, d2, d3]
  by_cases c1 : i + n + 1 < p.size
  · have d4 : decide (((i + n + 1 : Nat) : Int) < (p.size : Int)) = true := decide_eq_true (by omega)
    have d5 : decide (((i + n : Nat) : Int) < (p.size : Int)) = true := decide_eq_true (by omega)
    have d6 : decide (((i + n + 1 : Nat) : Int) ≤ (p.size : Int)) = true := decide_eq_true (by omega)
    simp only [d4, d5, d6, Bool.true_and, cond_true]
    cases ((p.data.getD (i + n) (OfNat.ofNat 0)).toNat : Int) == 45
    · simp only [cond_false]
      refine F98_leaf k hk r98 p fl lo lo i (i + n) (by omega) hA _ fun c fo fo' h4 r j fo'' h5 => ?_
      simp only [h4, Option.bind_some, h5]; rfl
    · simp only [cond_true]
      cases ((p.data.getD (i + n + 1) (OfNat.ofNat 0)).toNat : Int) != 93
      · simp only [cond_false]
        refine F98_leaf k hk r98 p fl lo lo i (i + n) (by omega) hA _ fun c fo fo' h4 r j fo'' h5 => ?_
        simp only [h4, Option.bind_some, h5]; rfl
      · simp only [cond_true]
        have hz' : (p.extract (i + n + 1) p.size).size = p.size - (i + n + 1) := ext_size p _
        obtain ⟨lo2, n2, hn2, h12, h22⟩ := F77_tot k fl (p.extract (i + n + 1) p.size) (by omega)
        have hw3 := wadd 1 n2 (by show _ ≤ 140737488351232; omega)
        have hw4 := wadd (i + n) (1 + n2) (by show _ ≤ 140737488351232; omega)
        rw [e1] at hw3
        simp only [hn2, Option.bind_some, hw3, hw4]
        refine F98_leaf k hk r98 p fl lo lo2 i (i + n + (1 + n2)) (by omega) (h _ (by omega) (by omega)) _ fun c fo fo' h4 r j fo'' h5 => ?_
        simp only [h4, Option.bind_some, h5]; rfl
  · have d4 : decide (((i + n + 1 : Nat) : Int) < (p.size : Int)) = false := decide_eq_false (by omega)
    simp only [d4, cond_false]
    refine F98_leaf k hk r98 p fl lo lo i (i + n) (by omega) hA _ fun c fo fo' h4 r j fo'' h5 => ?_
    simp only [h4, Option.bind_some, h5]; rfl
theorem F98_loop (k : Nat) (hk : 256 < k) (r98 : F98.tin.T → Option (ESum F98.outs)) (p nm : ByteArray) (fl c i : Int) (fo : Bool) (l : List Int) (hl : l.length ≤ 256) :
    ∃ fo', F98.l_7538 k r98 ((0, (), (), (), (), nm, (l.length : Int), ()), ((i, ()), (p, ()), (((), (), (), ()), ()), (((), (), (), (), (), ()), ()), (fl, ()), (c, ()), (fo, ()), l, ()), ()) = some (((), (), nm, ()), ((i, ()), (p, ()), (((), (), (), ()), ()), (((), (), (), (), (), ()), ()), (fl, ()), (c, ()), (fo', ()), ()), ()) := by
  obtain ⟨y, h1, fo', h2⟩ := loopN_inv (f := F98.s7538 k r98) (fun n x => ∃ fo : Bool, x = (((n : Int), (), (), (), (), nm, (l.length : Int), ()), ((i, ()), (p, ()), (((), (), (), ()), ()), (((), (), (), (), (), ()), ()), (fl, ()), (c, ()), (fo, ()), l, ()), ())) (fun y => ∃ fo' : Bool, y = (((), (), nm, ()), ((i, ()), (p, ()), (((), (), (), ()), ()), (((), (), (), (), (), ()), ()), (fl, ()), (c, ()), (fo', ()), ()), ())) l.length
    (fun n x hn ⟨fo, hx⟩ => by
      subst hx
      obtain ⟨fo', h4⟩ := F96_tot k (l.getD n 0) (l.getD n 0) c fl fo (by omega)
      have hw := wadd n 1 (by show _ ≤ 140737488351232; omega)
      have e1 : ((1 : Nat) : Int) = 1 := rfl
      rw [e1] at hw
      simp only [F98.s7538, F98.go7538, lt_dec hn, dec0, Bool.true_and, cond_true, Int.toNat_natCast, h4, Option.bind_some, hw]
      exact ⟨_, rfl, fo', rfl⟩)
    (fun x ⟨fo, hx⟩ => by
      subst hx
      simp only [F98.s7538, F98.go7538, lt_dec', cond_false]
      exact ⟨_, rfl, fo, rfl⟩) k (by omega) ((0, (), (), (), (), nm, (l.length : Int), ()), ((i, ()), (p, ()), (((), (), (), ()), ()), (((), (), (), (), (), ()), ()), (fl, ()), (c, ()), (fo, ()), l, ()), ()) ⟨fo, rfl⟩
  subst h2
  exact ⟨fo', h1⟩
theorem Tot.mono {F G : Int → Bool → Res98} {lo lo' : Nat} {p : ByteArray} {fl : Int} (h : Tot F lo p fl) (hl : lo' ≤ lo) (hG : ∀ c fo r j fo'', F c fo = some (F98.r r j p fl c fo'') → G c fo = some (F98.r r j p fl c fo'')) : Tot G lo' p fl := by
  obtain ⟨r, j, h1, h2, h3⟩ := h
  refine ⟨r, j, by omega, h2, fun c fo => ?_⟩
  obtain ⟨fo', h4⟩ := h3 c fo
  exact ⟨fo', hG c fo r j fo' h4⟩
theorem Tot.loop {F G : Int → Bool → Res98} {lo lo' : Nat} {p : ByteArray} {fl : Int} (P : Int → Bool → Bool → Prop) (hP : ∀ c fo, ∃ fo', P c fo fo') (h : Tot F lo p fl) (hl : lo' ≤ lo) (hG : ∀ c fo fo', P c fo fo' → ∀ r j fo'', F c fo' = some (F98.r r j p fl c fo'') → G c fo = some (F98.r r j p fl c fo'')) : Tot G lo' p fl := by
  obtain ⟨r, j, h1, h2, h3⟩ := h
  refine ⟨r, j, by omega, h2, fun c fo => ?_⟩
  obtain ⟨fo', h4⟩ := hP c fo
  obtain ⟨fo'', h5⟩ := h3 c fo'
  exact ⟨fo'', hG c fo fo' h4 r j fo'' h5⟩
theorem F98_step (k : Nat) (hk : 256 < k) (r98 : F98.tin.T → Option (ESum F98.outs)) (p : ByteArray) (hp : p.size ≤ 4000000000) (fl : Int) (i : Nat) (hi : i ≤ p.size) (fi : Bool)
    (h : ∀ i', i < i' → i' ≤ p.size → Tot (fun c fo => r98 (arg98 false i' p fl c fo)) i' p fl) : Tot (fun c fo => F98.go k r98 fi (i : Int) p fl c fo) i p fl := by
  unfold F98.go
  by_cases hi' : i < p.size
  · have d1 : decide ((i : Int) ≥ (p.size : Int)) = false := decide_eq_false (by omega)
    have d2 : decide ((i : Int) ≤ (p.size : Int)) = true := decide_eq_true (by omega)
    have hw1 := wadd i 1 (by show _ ≤ 140737488351232; omega)
    have hw2 := wadd i 2 (by show _ ≤ 140737488351232; omega)
    have e1 : ((1 : Nat) : Int) = 1 := rfl
    have e2 : ((2 : Nat) : Int) = 2 := rfl
    rw [e1] at hw1
    rw [e2] at hw2
    have h15 := F98_15 k (by omega) r98 p hp fl i hi' h
    have hz : (p.extract i p.size).size = p.size - i := ext_size p i
    simp only [d1, d2, dec0, lt_dec hi', cond_false, cond_true, Bool.true_and, Int.toNat_natCast, hw1, hw2]
    obtain ⟨hp1, hp2, hp3⟩ := F86_tot k (p.extract i p.size) { data := { toList := [OfNat.ofNat 91, OfNat.ofNat 58] : Array UInt8 } : ByteArray }
    simp only [hp2, Option.bind_some]
    have hq : ({ data := { toList := [OfNat.ofNat 91, OfNat.ofNat 58] : Array UInt8 } : ByteArray } : ByteArray).size = 2 := rfl
    have hs : ({ data := { toList := [OfNat.ofNat 58, OfNat.ofNat 93] : Array UInt8 } : ByteArray } : ByteArray).size = 2 := rfl
    rw [hq] at hp3
    generalize (((p.data.getD i (OfNat.ofNat 0)).toNat : Int) == 93) = b93
    have early : Tot (fun c fo => some (F98.r true ((i + 1 : Nat) : Int) p fl c fo)) i p fl := ⟨true, i + 1, by omega, by omega, fun c fo => ⟨fo, rfl⟩⟩
    cases b93 <;> cases fi <;> simp only [cond_true, cond_false, Bool.not_true, Bool.not_false]
    case true.false => exact early
    all_goals
      cases hp1
      · simp only [cond_false]
        exact h15.mono (Nat.le_refl _) fun c fo r j fo'' h5 => by simp only [h5]; rfl
      · have h2 := hp3 rfl
        have hz2 : (p.extract (i + 2) p.size).size = p.size - (i + 2) := ext_size p _
        have d3 : decide (((i + 2 : Nat) : Int) ≤ (p.size : Int)) = true := decide_eq_true (by omega)
        have d4 : decide ((p.extract (i + 2) p.size).size < 4294967281) = true := decide_eq_true (by omega)
        simp only [d3, d4, cond_true]
        generalize hnm : cutA (p.extract (i + 2) p.size) { data := { toList := [OfNat.ofNat 58, OfNat.ofNat 93] : Array UInt8 } : ByteArray } = nm
        have hfit := cut_fit (p.extract (i + 2) p.size) { data := { toList := [OfNat.ofNat 58, OfNat.ofNat 93] : Array UInt8 } : ByteArray }
        rw [hnm, hs] at hfit
        have hcl := F18_tot k nm hk
        rcases hcl with ⟨e, he⟩ | ⟨e, l, he, hl⟩
        · simp only [he, Option.bind_some, Sum.elim_inl]
          generalize hcc : cutC (p.extract (i + 2) p.size) { data := { toList := [OfNat.ofNat 58, OfNat.ofNat 93] : Array UInt8 } : ByteArray } = cc
          rw [hcc] at hfit
          cases cc
          · simp only [cond_false]
            exact h15.mono (Nat.le_refl _) fun c fo r j fo'' h5 => by simp only [h5]; rfl
          · have hf := hfit rfl
            simp only [cond_true]
            cases e == 0
            · simp only [cond_false]
              exact h15.mono (Nat.le_refl _) fun c fo r j fo'' h5 => by simp only [h5]; rfl
            · simp only [cond_true]
              have hw5 := wadd nm.size 4 (by show _ ≤ 140737488351232; omega)
              have e4 : ((4 : Nat) : Int) = 4 := rfl
              rw [e4] at hw5
              have hw6 := wadd i (nm.size + 4) (by show _ ≤ 140737488351232; omega)
              refine Tot.loop _ (fun c fo => F98_loop k hk r98 p nm fl c (i : Int) fo [] (by decide)) (h (i + (nm.size + 4)) (by omega) (by omega)) (by omega) fun c fo fo' h4 r j fo'' h5 => ?_
              have h4' := h4
              simp only [List.length_nil] at h4'
              have e0 : ((0 : Nat) : Int) = 0 := rfl
              rw [e0] at h4'
              simp only [h4', Option.bind_some, hw5, hw6, h5]; rfl
        · simp only [he, Option.bind_some, Sum.elim_inr]
          generalize hcc : cutC (p.extract (i + 2) p.size) { data := { toList := [OfNat.ofNat 58, OfNat.ofNat 93] : Array UInt8 } : ByteArray } = cc
          rw [hcc] at hfit
          cases cc
          · simp only [cond_false]
            exact h15.mono (Nat.le_refl _) fun c fo r j fo'' h5 => by simp only [h5]; rfl
          · have hf := hfit rfl
            simp only [cond_true]
            cases e == 0
            · simp only [cond_false]
              exact h15.mono (Nat.le_refl _) fun c fo r j fo'' h5 => by simp only [h5]; rfl
            · simp only [cond_true]
              have hw5 := wadd nm.size 4 (by show _ ≤ 140737488351232; omega)
              have e4 : ((4 : Nat) : Int) = 4 := rfl
              rw [e4] at hw5
              have hw6 := wadd i (nm.size + 4) (by show _ ≤ 140737488351232; omega)
              refine Tot.loop _ (fun c fo => F98_loop k hk r98 p nm fl c (i : Int) fo l hl) (h (i + (nm.size + 4)) (by omega) (by omega)) (by omega) fun c fo fo' h4 r j fo'' h5 => ?_
              simp only [h4, Option.bind_some, hw5, hw6, h5]; rfl
  · have d1 : decide ((i : Int) ≥ (p.size : Int)) = true := decide_eq_true (by omega)
    simp only [d1, cond_true]
    exact ⟨false, i, Nat.le_refl _, hi, fun c fo => ⟨fo, rfl⟩⟩
theorem F98_rec (k : Nat) (hk : 256 < k) (p : ByteArray) (hp : p.size ≤ 4000000000) (fl : Int) : ∀ m i fi, i ≤ p.size → p.size - i < m → Tot (fun c fo => F98.gorec k m (arg98 fi i p fl c fo)) i p fl
  | 0, i, fi, _, h => absurd h (Nat.not_lt_zero _)
  | m + 1, i, fi, hi, h => F98_step k hk (F98.gorec k m) p hp fl i hi fi fun i' h1 h2 => F98_rec k hk p hp fl m i' false h2 (by omega)
theorem F76_tot (k : Nat) (hk : 256 < k) (p : ByteArray) (hp : p.size ≤ 4000000000) (hpk : p.size < k) (fl : Int) : ∃ n : Nat, n ≤ p.size ∧ ∀ c, ∃ b, F76.go k fl p c = some (((b, (n : Int), ()), ()), (), ()) := by
  have key : ∀ (i : Nat) (no : Bool), i ≤ p.size → ∃ n : Nat, n ≤ p.size ∧ ∀ c, ∃ b, ((F98.gorec k k (arg98 true i p fl c false) : Res98).bind fun (y4 : (Bool × Unit) × ((Int × Unit) × (ByteArray × Unit) × ((Unit × Unit × Unit × Unit) × Unit) × ((Unit × Unit × Unit × Unit × Unit × Unit) × Unit) × (Int × Unit) × (Int × Unit) × (Bool × Unit) × Unit) × Unit) => bif !y4.1.1 then some (((Bool.false, 0, ()), ()), (), ()) else some (((!y4.2.1.2.2.2.2.2.2.1.1 == no, y4.2.1.1.1, ()), ()), (), ()) : Option (((Bool × Int × Unit) × Unit) × Unit × Unit)) = some (((b, (n : Int), ()), ()), (), ()) := by
    intro i no hi
    obtain ⟨r, j, h1, h2, h3⟩ := F98_rec k hk p hp fl k i true hi (by omega)
    cases r
    · refine ⟨0, Nat.zero_le _, fun c => ?_⟩
      obtain ⟨fo', h4⟩ := h3 c false
      simp only [h4]; exact ⟨_, rfl⟩
    · refine ⟨j, h2, fun c => ?_⟩
      obtain ⟨fo', h4⟩ := h3 c false
      simp only [h4]; exact ⟨_, rfl⟩
  unfold F76.go
  by_cases h0 : 0 < p.size
  · have d0 : decide ((0 : Int) < (p.size : Int)) = true := decide_eq_true (by omega)
    simp only [d0, cond_true]
    cases ((p.data.getD 0 (OfNat.ofNat 0)).toNat : Int) == 33
    · cases ((p.data.getD 0 (OfNat.ofNat 0)).toNat : Int) == 94
      · exact key 0 false (by omega)
      · exact key 1 true (by omega)
    · exact key 1 true (by omega)
  · have d0 : decide ((0 : Int) < (p.size : Int)) = false := decide_eq_false (by omega)
    simp only [d0, cond_false]
    exact key 0 false (by omega)
theorem F79_z (k : Nat) : F79.go k 0 1 = some ((false, ()), (), ()) ∧ F79.go k 0 2 = some ((false, ()), (), ()) ∧ F79.go k 0 4 = some ((false, ()), (), ()) ∧ F79.go k 0 8 = some ((false, ()), (), ()) := ⟨by rfl, by rfl, by rfl, by rfl⟩
theorem F51_z (k : Nat) (s : ByteArray) (i : Int) : F51.go k 0 s i = some ((true, ()), (), ()) := by
  obtain ⟨h1, h2, h3, h4⟩ := F79_z k
  unfold F51.go
  simp only [h1, h2, Option.bind_some, cond_false]
  cases i == 0 <;> rfl
theorem F78_z (k : Nat) (a b : Int) : F78.go k 0 a b = some ((a == b, ()), (), ()) := by
  obtain ⟨h1, h2, h3, h4⟩ := F79_z k
  unfold F78.go
  cases a == b
  · simp only [h4, Option.bind_some, cond_false]
  · rfl
def Stp (k : Nat) (p : ByteArray) (n : Nat) (g : UInt8 → Bool) : Prop := 1 ≤ n ∧ n ≤ p.size ∧ ∀ (s : ByteArray) (i : Nat), i < s.size → F50.go k 0 p s (i : Int) = some (((g (s.data.getD i 0), (n : Int), ()), ()), (), ())
theorem F50_tot (k : Nat) (hk : 256 < k) (p : ByteArray) (hp : p.size ≤ 4000000000) (hpk : p.size < k) (h0 : 0 < p.size) : ∃ n g, Stp k p n g := by
  have d0 : decide ((0 : Int) < (p.size : Int)) = true := decide_eq_true (by omega)
  have d1 : decide ((1 : Int) ≤ (p.size : Int)) = true := decide_eq_true (by omega)
  unfold Stp F50.go
  simp only [d0, d1, cond_true, F51_z, Option.bind_some, F78_z]
  obtain ⟨b, n, hb, hn1, hn2⟩ := F77_tot k 0 p h0
  simp only [hb, Option.bind_some]
  cases ((p.data.getD 0 (OfNat.ofNat 0)).toNat : Int) == 63
  · cases ((p.data.getD 0 (OfNat.ofNat 0)).toNat : Int) == 91
    · refine ⟨n, fun c => b == (c.toNat : Int), hn1, hn2, fun s i hi => ?_⟩
      simp only [dec0, lt_dec hi, Bool.true_and, cond_true, cond_false]; rfl
    · have hz : (p.extract 1 p.size).size = p.size - 1 := ext_size p 1
      obtain ⟨m, hm, h⟩ := F76_tot k hk (p.extract 1 p.size) (by omega) (by omega) 0
      by_cases hm0 : 0 < m
      · have d2 : decide ((m : Int) > 0) = true := decide_eq_true (by omega)
        have hw := wadd m 1 (by show _ ≤ 140737488351232; omega)
        have e1 : ((1 : Nat) : Int) = 1 := rfl
        rw [e1] at hw
        obtain ⟨g, hg⟩ := Classical.axiomOfChoice h
        refine ⟨m + 1, fun c => g (c.toNat : Int), by omega, by omega, fun s i hi => ?_⟩
        have hc' : F76.go k 0 (p.extract 1 p.size) ((s.data.getD i (OfNat.ofNat 0)).toNat : Int) = some (((g ((s.data.getD i 0).toNat : Int), (m : Int), ()), ()), (), ()) := hg _
        simp only [dec0, lt_dec hi, Bool.true_and, cond_true, cond_false, Int.toNat_natCast, hc', Option.bind_some, d2, hw]
        cases g ((s.data.getD i 0).toNat : Int) <;> rfl
      · have d2 : decide ((m : Int) > 0) = false := decide_eq_false (by omega)
        refine ⟨n, fun c => b == (c.toNat : Int), hn1, hn2, fun s i hi => ?_⟩
        obtain ⟨q, hc⟩ := h ((s.data.getD i 0).toNat : Int)
        have hc' : F76.go k 0 (p.extract 1 p.size) ((s.data.getD i (OfNat.ofNat 0)).toNat : Int) = some (((q, (m : Int), ()), ()), (), ()) := hc
        simp only [dec0, lt_dec hi, Bool.true_and, cond_true, cond_false, Int.toNat_natCast, hc', Option.bind_some, d2]
  · exact ⟨1, fun _ => true, by omega, by omega, fun s i hi => rfl⟩
abbrev mk (l : List UInt8) : ByteArray := ⟨⟨l⟩⟩
theorem mk_size (l : List UInt8) : (mk l).size = l.length := rfl
theorem ext_mk (l : List UInt8) (n m : Nat) (h : m = l.length) : (mk l).extract n m = mk (l.drop n) := by
  subst h
  have h1 : ((mk l).extract n l.length).data.toList = l.drop n := by
    rw [Lib.extract_data]
    show (l.drop n).take (l.length - n) = l.drop n
    rw [List.take_of_length_le (by rw [List.length_drop]; omega)]
  rw [← h1]
theorem mk_nil (l : List UInt8) : ((mk l).toList == (mk []).toList) = l.isEmpty := by
  rw [Lib.toList_data, Lib.toList_data]
  cases l <;> rfl
theorem mem_dropWhile {α : Type} (f : α → Bool) : ∀ (l : List α) (x : α), x ∈ l → f x = false → x ∈ l.dropWhile f
  | [], x, h, _ => h
  | a :: r, x, h, hf => by
    unfold List.dropWhile
    cases ha : f a
    · exact h
    · cases List.mem_cons.1 h with
      | inl e => subst e; rw [ha] at hf; exact absurd hf (by decide)
      | inr e => exact mem_dropWhile f r x e hf
theorem dropWhile_all {α : Type} (f : α → Bool) : ∀ l : List α, (∀ x ∈ l, f x = true) → l.dropWhile f = []
  | [], _ => rfl
  | a :: r, h => by
    unfold List.dropWhile
    rw [h a (List.mem_cons_self ..)]
    exact dropWhile_all f r fun x hx => h x (List.mem_cons_of_mem _ hx)
theorem trim_stars (l : List UInt8) : ((trimA (mk l) (mk [42])).toList == (mk []).toList) = l.all (· == 42) := by
  have e : (trimA (mk l) (mk [42])).toList = Lib.trimS l [42] := by rw [Lib.toList_data]; rfl
  rw [e, Lib.toList_data]
  have hc : ∀ x : UInt8, [(42 : UInt8)].contains x = (x == 42) := fun x => by
    show List.elem x [42] = _
    unfold List.elem
    cases x == 42 <;> rfl
  cases h : l.all (· == 42)
  · rw [List.all_eq_false] at h
    obtain ⟨x, hx, hx2⟩ := h
    have hx3 : (x == 42) = false := by simpa using hx2
    have hm : x ∈ Lib.trimS l [42] := by
      unfold Lib.trimS Lib.trimLeftS Lib.trimRightS
      refine mem_dropWhile _ _ _ ?_ (by rw [hc, hx3])
      rw [List.mem_reverse]
      exact mem_dropWhile _ _ _ (List.mem_reverse.2 hx) (by rw [hc, hx3])
    cases hq : Lib.trimS l [42] with
    | nil => rw [hq] at hm; exact absurd hm (List.not_mem_nil)
    | cons a r => rfl
  · rw [List.all_eq_true] at h
    have : Lib.trimS l [42] = [] := by
      unfold Lib.trimS Lib.trimLeftS Lib.trimRightS
      rw [dropWhile_all _ l.reverse (fun x hx => by rw [hc]; exact h x (List.mem_reverse.1 hx))]
      rfl
    rw [this]; rfl
abbrev st (p : List UInt8) (i : Nat) (b : List UInt8) (f : Int) (s : List UInt8) : (ByteArray × Int × ByteArray × Int × ByteArray × Int × Unit) × Unit × Unit := ((mk p, (i : Int), mk b, f, mk s, 0, ()), (), ())
theorem asc42 : ascii (mk [42]) = true := by rfl
theorem s_end (k : Nat) (p b s : List UInt8) (f : Int) (hp : p.length ≤ 4000000000) : F20.s55 k (st p s.length b f s) = some (.inr ((p.all (· == 42), ()), (), ())) := by
  have h1 : ((s.length : Int) == (s.length : Int)) = true := beq_self_eq_true _
  have h2 : decide (p.length ≤ 9223372036854775807) = true := decide_eq_true (by omega)
  have h3 := trim_stars p
  have h4 := asc42
  simp only [F20.s55, F20.go55, mk_size, h1, h2, cond_true, Bool.and_true]
  show (bif ascii (mk [42]) then some (Sum.inr ((((trimA (mk p) (mk [42])).toList == (mk []).toList), ()), (), ())) else none) = _
  rw [h4, h3]; rfl
theorem ne_end {i n : Nat} (h : i < n) : ((i : Int) == (n : Int)) = false := by simp; omega
theorem s_star (k : Nat) (p b s : List UInt8) (f : Int) (i : Nat) (hi : i < s.length) : F20.s55 k (st (42 :: p) i b f s) = some (.inl (st p i p (i : Int) s)) := by
  have h1 := mk_nil (42 :: p)
  have h2 : decide ((0 : Int) < ((42 :: p).length : Int)) = true := decide_eq_true (by rw [List.length_cons]; omega)
  have h3 : decide ((1 : Int) ≤ ((42 :: p).length : Int)) = true := decide_eq_true (by rw [List.length_cons]; omega)
  have h4 : ((((mk (42 :: p)).data.getD 0 (OfNat.ofNat 0)).toNat : Int) == 42) = true := rfl
  have h5 := ext_mk (42 :: p) 1 (42 :: p).length rfl
  simp only [F20.s55, F20.go55, ne_end hi, mk_size, cond_false]
  show (bif !((mk (42 :: p)).toList == (mk []).toList) then _ else _) = _
  rw [h1]
  simp only [List.isEmpty_cons, Bool.not_false, cond_true, h2, h3, h4, h5]
  rfl
theorem head_ne {a : UInt8} (h : a ≠ 42) (r : List UInt8) : ((((mk (a :: r)).data.getD 0 (OfNat.ofNat 0)).toNat : Int) == 42) = false := by
  have : (((mk (a :: r)).data.getD 0 (OfNat.ofNat 0)).toNat) = a.toNat := rfl
  rw [this]
  have h2 : a.toNat ≠ 42 := fun e => h (UInt8.toNat_inj.1 (by rw [e]; rfl))
  rw [beq_eq_false_iff_ne]; omega
theorem s_one (k : Nat) (a : UInt8) (p b s : List UInt8) (f : Int) (i : Nat) (hi : i < s.length) (ha : a ≠ 42) (hs : s.length ≤ 4000000000) (n : Nat) (g : UInt8 → Bool) (h : Stp k (mk (a :: p)) n g) (hg : g (s.getD i 0) = true) :
    F20.s55 k (st (a :: p) i b f s) = some (.inl (st ((a :: p).drop n) (i + 1) b f s)) := by
  have h1 := mk_nil (a :: p)
  have h2 : decide ((0 : Int) < ((a :: p).length : Int)) = true := decide_eq_true (by rw [List.length_cons]; omega)
  have h3 : decide ((n : Int) ≤ ((a :: p).length : Int)) = true := decide_eq_true (by have : n ≤ (a :: p).length := h.2.1; omega)
  have h4 := head_ne ha p
  have h5 := ext_mk (a :: p) n (a :: p).length rfl
  have h6 := h.2.2 (mk s) i hi
  have h7 : (mk s).data.getD i 0 = s.getD i 0 := by
    show (if h : i < s.length then s[i] else 0) = s.getD i 0
    rw [dif_pos hi, List.getD_eq_getElem?_getD, List.getElem?_eq_getElem hi]; rfl
  have hw := wadd i 1 (by show _ ≤ 140737488351232; omega)
  have e1 : ((1 : Nat) : Int) = 1 := rfl
  rw [e1] at hw
  rw [h7, hg] at h6
  simp only [F20.s55, F20.go55, ne_end hi, mk_size, cond_false]
  show (bif !((mk (a :: p)).toList == (mk []).toList) then _ else _) = _
  rw [h1]
  simp only [h2, h4, List.isEmpty_cons, Bool.not_false, cond_true, h6, Option.bind_some, dec0, h3, Bool.true_and, Int.toNat_natCast, h5, hw, cond_false]
theorem back_no (k : Nat) (b s : ByteArray) : F20.go895 k b s 0 (-1) = some (.inl ((false, ()), (), ())) := rfl
theorem back_yes (k : Nat) (b s : ByteArray) (f : Nat) (hf : f ≤ 4000000000) : F20.go895 k b s 0 (f : Int) = some (.inr ((b, ((f + 1 : Nat) : Int), b, ((f + 1 : Nat) : Int), false, true, 0, s, (f : Int), s, 0, ()), (), ())) := by
  have hw := wadd f 1 (by show _ ≤ 140737488351232; omega)
  have e1 : ((1 : Nat) : Int) = 1 := rfl
  rw [e1] at hw
  have h1 : decide ((f : Int) < 0) = false := decide_eq_false (by omega)
  unfold F20.go895
  simp only [h1, cond_false, F51_z, Option.bind_some, Bool.not_true, hw]
/-- the pattern's head does not match -/
def Miss (k : Nat) (p : List UInt8) (c : UInt8) : Prop := p = [] ∨ ∃ a r n g, p = a :: r ∧ a ≠ 42 ∧ Stp k (mk p) n g ∧ g c = false
theorem s_miss (k : Nat) (p b s : List UInt8) (f : Int) (i : Nat) (hi : i < s.length) (h : Miss k p (s.getD i 0)) (R : Option ((ByteArray × Int × ByteArray × Int × ByteArray × Int × Unit) × Unit × Unit ⊕ (Bool × Unit) × Unit × Unit))
    (hR : ((F20.go895 k (mk b) (mk s) 0 f).bind fun y8 =>
                  Sum.elim (fun y9 => some (Sum.inr ((y9.fst.fst, ()), (), ())))
                    (fun y9 =>
                      some
                        (Sum.inl
                          ((y9.fst.fst, y9.fst.snd.fst, y9.fst.snd.snd.fst, y9.fst.snd.snd.snd.fst,
                              y9.fst.snd.snd.snd.snd.snd.snd.snd.snd.snd.fst,
                              y9.fst.snd.snd.snd.snd.snd.snd.snd.snd.snd.snd.fst, ()),
                            (), ())))
                    y8) = R) : F20.s55 k (st p i b f s) = R := by
  have h7 : (mk s).data.getD i 0 = s.getD i 0 := by
    show (if h : i < s.length then s[i] else 0) = s.getD i 0
    rw [dif_pos hi, List.getD_eq_getElem?_getD, List.getElem?_eq_getElem hi]; rfl
  rcases h with h | ⟨a, r, n, g, h, ha, hS, hg⟩
  · subst h
    have h1 := mk_nil []
    simp only [F20.s55, F20.go55, ne_end hi, mk_size, cond_false]
    show (bif !((mk []).toList == (mk []).toList) then _ else (bif !((mk []).toList == (mk []).toList) then _ else _)) = _
    rw [h1]
    exact hR
  · subst h
    have h1 := mk_nil (a :: r)
    have h2 : decide ((0 : Int) < ((a :: r).length : Int)) = true := decide_eq_true (by rw [List.length_cons]; omega)
    have h4 := head_ne ha r
    have h6 := hS.2.2 (mk s) i hi
    rw [h7, hg] at h6
    simp only [F20.s55, F20.go55, ne_end hi, mk_size, cond_false]
    show (bif !((mk (a :: r)).toList == (mk []).toList) then _ else _) = _
    rw [h1]
    simp only [h2, h4, List.isEmpty_cons, Bool.not_false, cond_true, cond_false, h6, Option.bind_some]
    exact hR
theorem s_fail (k : Nat) (p b s : List UInt8) (i : Nat) (hi : i < s.length) (h : Miss k p (s.getD i 0)) : F20.s55 k (st p i b (-1) s) = some (.inr ((false, ()), (), ())) :=
  s_miss k p b s (-1) i hi h _ (by rw [back_no]; rfl)
theorem s_back (k : Nat) (p b s : List UInt8) (f i : Nat) (hf : f ≤ 4000000000) (hi : i < s.length) (h : Miss k p (s.getD i 0)) : F20.s55 k (st p i b (f : Int) s) = some (.inl (st b (f + 1) b ((f + 1 : Nat) : Int) s)) :=
  s_miss k p b s (f : Int) i hi h _ (by rw [back_yes k _ _ f hf]; rfl)
inductive M (nn : List UInt8 → Nat) (gg : List UInt8 → UInt8 → Bool) : List UInt8 → List UInt8 → Prop
  | nil : M nn gg [] []
  | skip {p s : List UInt8} : M nn gg p s → M nn gg (42 :: p) s
  | eat {p s : List UInt8} {c : UInt8} : M nn gg (42 :: p) s → M nn gg (42 :: p) (c :: s)
  | one {a : UInt8} {p s : List UInt8} {c : UInt8} : a ≠ 42 → gg (a :: p) c = true → M nn gg ((a :: p).drop (nn (a :: p))) s → M nn gg (a :: p) (c :: s)
theorem M_star_of {nn : List UInt8 → Nat} {gg : List UInt8 → UInt8 → Bool} {p : List UInt8} : ∀ (t : List UInt8) (j : Nat), M nn gg p (t.drop j) → M nn gg (42 :: p) t
  | t, 0, h => M.skip h
  | [], j + 1, h => M.skip h
  | c :: t, j + 1, h => M.eat (M_star_of t j h)
theorem M_eats {nn : List UInt8 → Nat} {gg : List UInt8 → UInt8 → Bool} {p : List UInt8} : ∀ (t : List UInt8) (j : Nat), M nn gg (42 :: p) (t.drop j) → M nn gg (42 :: p) t
  | t, 0, h => h
  | [], j + 1, h => h
  | c :: t, j + 1, h => M.eat (M_eats t j h)
theorem M_star_to {nn : List UInt8 → Nat} {gg : List UInt8 → UInt8 → Bool} {p q t : List UInt8} (h : M nn gg q t) : q = 42 :: p → ∃ j, j ≤ t.length ∧ M nn gg p (t.drop j) := by
  induction h with
  | nil => intro e; exact absurd e (by simp)
  | skip h ih => intro e; injection e with e1 e2; subst e2; exact ⟨0, Nat.zero_le _, h⟩
  | eat h ih => intro e; obtain ⟨j, h1, h2⟩ := ih e; exact ⟨j + 1, Nat.succ_le_succ h1, h2⟩
  | one ha hg h ih => intro e; injection e with e1 e2; exact absurd e1 ha
theorem M_one_to {nn : List UInt8 → Nat} {gg : List UInt8 → UInt8 → Bool} {a : UInt8} {p q t : List UInt8} (ha : a ≠ 42) (h : M nn gg q t) : q = a :: p → ∃ c t', t = c :: t' ∧ gg (a :: p) c = true ∧ M nn gg ((a :: p).drop (nn (a :: p))) t' := by
  cases h with
  | nil => intro e; exact absurd e (by simp)
  | skip h => intro e; injection e with e1 e2; exact absurd e1.symm ha
  | eat h => intro e; injection e with e1 e2; exact absurd e1.symm ha
  | one ha hg h => intro e; injection e with e1 e2; subst e1; subst e2; exact ⟨_, _, rfl, hg, h⟩
theorem M_nil_to {nn : List UInt8 → Nat} {gg : List UInt8 → UInt8 → Bool} {q t : List UInt8} (h : M nn gg q t) : q = [] → t = [] := by
  cases h with
  | nil => intro _; rfl
  | skip h => intro e; exact absurd e (by simp)
  | eat h => intro e; exact absurd e (by simp)
  | one ha hg h => intro e; exact absurd e (by simp)
theorem M_end {nn : List UInt8 → Nat} {gg : List UInt8 → UInt8 → Bool} : ∀ p : List UInt8, M nn gg p [] ↔ p.all (· == 42) = true
  | [] => ⟨fun _ => rfl, fun _ => M.nil⟩
  | a :: p => by
    have ih := M_end (nn := nn) (gg := gg) p
    constructor
    · intro h
      by_cases ha : a = 42
      · subst ha
        obtain ⟨j, _, h2⟩ := M_star_to (p := p) h rfl
        rw [List.drop_nil] at h2
        have h3 := ih.1 h2
        rw [List.all_cons, h3]; rfl
      · obtain ⟨c, t', e, _⟩ := M_one_to ha h rfl
        exact absurd e (by simp)
    · intro h
      rw [List.all_cons, Bool.and_eq_true] at h
      have ha : a = 42 := by simpa using h.1
      subst ha
      exact M.skip (ih.2 h.2)
/-- what is left of a pattern after so many steps without a star -/
inductive Rch (nn : List UInt8 → Nat) (b : List UInt8) : List UInt8 → Nat → Prop
  | refl : Rch nn b b 0
  | step {a : UInt8} {p : List UInt8} {m : Nat} : Rch nn b (a :: p) m → a ≠ 42 → Rch nn b ((a :: p).drop (nn (a :: p))) (m + 1)
theorem Rch_M {nn : List UInt8 → Nat} {gg : List UInt8 → UInt8 → Bool} {b p v : List UInt8} {m : Nat} (h : Rch nn b p m) (hb : M nn gg b v) : m ≤ v.length ∧ M nn gg p (v.drop m) := by
  induction h with
  | refl => exact ⟨Nat.zero_le _, hb⟩
  | @step a p m h ha ih =>
    obtain ⟨h1, h2⟩ := ih
    obtain ⟨c, t', e, _, h3⟩ := M_one_to ha h2 rfl
    have hl := congrArg List.length e
    rw [List.length_drop, List.length_cons] at hl
    have he : v.drop (m + 1) = t' := by
      have : v.drop (m + 1) = (v.drop m).drop 1 := by rw [List.drop_drop]
      rw [this, e]; rfl
    exact ⟨by omega, by rw [he]; exact h3⟩
def frI : Option Nat → Int
  | none => -1
  | some f => (f : Int)
def frN (n : Nat) : Option Nat → Nat
  | none => n + 1
  | some f => n - f
def Alt (nn : List UInt8 → Nat) (gg : List UInt8 → UInt8 → Bool) (b : List UInt8) (fr : Option Nat) (s : List UInt8) : Prop := ∃ f j, fr = some f ∧ f < j ∧ j ≤ s.length ∧ M nn gg b (s.drop j)
theorem drop_at {s : List UInt8} {i : Nat} (h : i < s.length) : s.drop i = s.getD i 0 :: s.drop (i + 1) := by
  rw [List.drop_eq_getElem_cons h, List.getD_eq_getElem?_getD, List.getElem?_eq_getElem h]; rfl
theorem match_loop (k : Nat) (nn : List UInt8 → Nat) (gg : List UInt8 → UInt8 → Bool) (P : Nat) (hP : P ≤ 4000000000) (hS : ∀ a p, (a :: p).length ≤ P → Stp k (mk (a :: p)) (nn (a :: p)) (gg (a :: p))) (s : List UInt8) (hs : s.length ≤ 4000000000) :
    ∀ (fu : Nat) (p : List UInt8) (i : Nat) (b : List UInt8) (fr : Option Nat), i ≤ s.length → p.length ≤ P → b.length ≤ P → (∀ f, fr = some f → f ≤ i ∧ Rch nn b p (i - f)) → frN s.length fr * (P + 1) + p.length < fu →
      ∃ r, loopN (F20.s55 k) fu (st p i b (frI fr) s) = some ((r, ()), (), ()) ∧ (r = true ↔ M nn gg p (s.drop i) ∨ Alt nn gg b fr s) := by
  intro fu
  induction fu with
  | zero => intro p i b fr _ _ _ _ h; exact absurd h (Nat.not_lt_zero _)
  | succ fu ih =>
    intro p i b fr hi hp hb hR hm
    by_cases hie : i = s.length
    · subst hie
      refine ⟨p.all (· == 42), loopN_inr (s_end k p b s (frI fr) (by omega)), ?_⟩
      rw [List.drop_length, ← M_end (nn := nn) (gg := gg) p]
      constructor
      · exact fun h => Or.inl h
      · intro h
        cases h with
        | inl h => exact h
        | inr h =>
          obtain ⟨f, j, h1, h2, h3, h4⟩ := h
          obtain ⟨h5, h6⟩ := hR f h1
          obtain ⟨h7, _⟩ := Rch_M h6 h4
          rw [List.length_drop] at h7
          omega
    · have hi' : i < s.length := by omega
      have hd := drop_at hi'
      -- the pattern's head does not match
      have miss : Miss k p (s.getD i 0) → ¬ M nn gg p (s.drop i) → ∃ r, loopN (F20.s55 k) (fu + 1) (st p i b (frI fr) s) = some ((r, ()), (), ()) ∧ (r = true ↔ M nn gg p (s.drop i) ∨ Alt nn gg b fr s) := by
        intro hms hno
        cases fr with
        | none =>
          refine ⟨false, loopN_inr (s_fail k p b s i hi' hms), ?_⟩
          constructor
          · intro h; exact absurd h (by decide)
          · intro h
            cases h with
            | inl h => exact absurd h hno
            | inr h => obtain ⟨f, j, h1, _⟩ := h; exact absurd h1 (by simp)
        | some f =>
          obtain ⟨h5, h6⟩ := hR f rfl
          have hmm : (s.length - f) * (P + 1) = (s.length - (f + 1)) * (P + 1) + (P + 1) := by
            have : s.length - f = (s.length - (f + 1)) + 1 := by omega
            rw [this, Nat.succ_mul]
          have hm' : (s.length - f) * (P + 1) + p.length < fu + 1 := hm
          obtain ⟨r, h7, h8⟩ := ih b (f + 1) b (some (f + 1)) (by omega) hb hb (fun f' e => by
            injection e with e; subst e
            exact ⟨Nat.le_refl _, by rw [Nat.sub_self]; exact Rch.refl⟩) (show (s.length - (f + 1)) * (P + 1) + b.length < fu by omega)
          refine ⟨r, ?_, ?_⟩
          · show loopN (F20.s55 k) (fu + 1) (st p i b (f : Int) s) = _
            rw [loopN_inl (s_back k p b s f i (by omega) hi' hms)]
            exact h7
          · rw [h8]
            constructor
            · intro h
              right
              cases h with
              | inl h => exact ⟨f, f + 1, rfl, by omega, by omega, h⟩
              | inr h =>
                obtain ⟨f', j, h1, h2, h3, h4⟩ := h
                injection h1 with h1; subst h1
                exact ⟨f, j, rfl, by omega, h3, h4⟩
            · intro h
              cases h with
              | inl h => exact absurd h hno
              | inr h =>
                obtain ⟨f', j, h1, h2, h3, h4⟩ := h
                injection h1 with h1; subst h1
                by_cases hj : j = f + 1
                · subst hj; exact Or.inl h4
                · exact Or.inr ⟨f + 1, j, rfl, by omega, h3, h4⟩
      cases p with
      | nil => exact miss (Or.inl rfl) (fun h => by have := M_nil_to h rfl; rw [hd] at this; exact absurd this (by simp))
      | cons a p =>
        by_cases ha : a = 42
        · subst ha
          have hle : frN s.length (some i) * (P + 1) ≤ frN s.length fr * (P + 1) := by
            refine Nat.mul_le_mul_right _ ?_
            cases fr with
            | none => show s.length - i ≤ s.length + 1; omega
            | some f => have := (hR f rfl).1; show s.length - i ≤ s.length - f; omega
          rw [List.length_cons] at hm hp
          obtain ⟨r, h7, h8⟩ := ih p i p (some i) hi (by omega) (by omega) (fun f' e => by
            injection e with e; subst e
            exact ⟨Nat.le_refl _, by rw [Nat.sub_self]; exact Rch.refl⟩) (by omega)
          refine ⟨r, ?_, ?_⟩
          · rw [loopN_inl (s_star k p b s (frI fr) i hi')]
            exact h7
          · rw [h8]
            constructor
            · intro h
              left
              cases h with
              | inl h => exact M.skip h
              | inr h =>
                obtain ⟨f', j, h1, h2, h3, h4⟩ := h
                injection h1 with h1; subst h1
                refine M_star_of _ (j - i) ?_
                rw [List.drop_drop]
                have : i + (j - i) = j := by omega
                rw [this]; exact h4
            · intro h
              have key : M nn gg (42 :: p) (s.drop i) → M nn gg p (s.drop i) ∨ Alt nn gg p (some i) s := by
                intro h
                obtain ⟨j, h1, h2⟩ := M_star_to (p := p) h rfl
                rw [List.drop_drop] at h2
                rw [List.length_drop] at h1
                by_cases hj : j = 0
                · subst hj; exact Or.inl h2
                · exact Or.inr ⟨i, i + j, rfl, by omega, by omega, h2⟩
              cases h with
              | inl h => exact key h
              | inr h =>
                obtain ⟨f, j, h1, h2, h3, h4⟩ := h
                obtain ⟨h5, h6⟩ := hR f h1
                obtain ⟨h9, h10⟩ := Rch_M h6 h4
                rw [List.drop_drop] at h10
                refine key (M_eats _ (j - f) ?_)
                rw [List.drop_drop]
                have e : i + (j - f) = j + (i - f) := by omega
                rw [e]; exact h10
        · have hst := hS a p hp
          cases hg : gg (a :: p) (s.getD i 0)
          · refine miss (Or.inr ⟨a, p, _, _, rfl, ha, hst, hg⟩) (fun h => ?_)
            obtain ⟨c, t', e, h1, _⟩ := M_one_to ha h rfl
            rw [hd] at e
            injection e with e1 e2
            subst e1
            rw [hg] at h1; exact absurd h1 (by decide)
          · have hn : 1 ≤ nn (a :: p) := hst.1
            have hl : ((a :: p).drop (nn (a :: p))).length < (a :: p).length := by rw [List.length_drop, List.length_cons]; omega
            obtain ⟨r, h7, h8⟩ := ih ((a :: p).drop (nn (a :: p))) (i + 1) b fr hi' (by omega) hb (fun f e => by
              obtain ⟨h1, h2⟩ := hR f e
              refine ⟨by omega, ?_⟩
              have : i + 1 - f = (i - f) + 1 := by omega
              rw [this]
              exact Rch.step h2 ha) (by omega)
            refine ⟨r, ?_, ?_⟩
            · rw [loopN_inl (s_one k a p b s (frI fr) i hi' ha hs _ _ hst hg)]
              exact h7
            · rw [h8]
              have : M nn gg (a :: p) (s.drop i) ↔ M nn gg ((a :: p).drop (nn (a :: p))) (s.drop (i + 1)) := by
                rw [hd]
                constructor
                · intro h
                  obtain ⟨c, t', e, h1, h2⟩ := M_one_to ha h rfl
                  injection e with e1 e2
                  subst e1; subst e2; exact h2
                · intro h; exact M.one ha hg h
              rw [this]
theorem g_end (k : Nat) (p : List UInt8) (hp : p.length ≤ 4000000000) : F20.go k (mk p) (mk []) 0 = some ((p.all (· == 42), ()), (), ()) := by
  have h1 : ((0 : Int) == ((0 : Nat) : Int)) = true := rfl
  have h2 : decide (p.length ≤ 9223372036854775807) = true := decide_eq_true (by omega)
  have h3 := trim_stars p
  have h4 := asc42
  simp only [F20.go, mk_size, List.length_nil, h1, h2, cond_true, Bool.and_true]
  show (bif ascii (mk [42]) then some ((((trimA (mk p) (mk [42])).toList == (mk []).toList), ()), (), ()) else none) = _
  rw [h4, h3]; rfl
theorem ne_zero {s : List UInt8} (h : 0 < s.length) : ((0 : Int) == (s.length : Int)) = false := by simp; omega
theorem g_star (k : Nat) (p s : List UInt8) (hi : 0 < s.length) : F20.go k (mk (42 :: p)) (mk s) 0 = (F20.l_55 k (st p 0 p 0 s)).bind fun y4 => some ((y4.1.1, ()), (), ()) := by
  have h1 := mk_nil (42 :: p)
  have h2 : decide ((0 : Int) < ((42 :: p).length : Int)) = true := decide_eq_true (by rw [List.length_cons]; omega)
  have h3 : decide ((1 : Int) ≤ ((42 :: p).length : Int)) = true := decide_eq_true (by rw [List.length_cons]; omega)
  have h4 : ((((mk (42 :: p)).data.getD 0 (OfNat.ofNat 0)).toNat : Int) == 42) = true := rfl
  have h5 := ext_mk (42 :: p) 1 (42 :: p).length rfl
  simp only [F20.go, ne_zero hi, mk_size, cond_false]
  show (bif !((mk (42 :: p)).toList == (mk []).toList) then _ else _) = _
  rw [h1]
  simp only [List.isEmpty_cons, Bool.not_false, cond_true, h2, h3, h4, h5]
  rfl
theorem g_one (k : Nat) (a : UInt8) (p s : List UInt8) (hi : 0 < s.length) (ha : a ≠ 42) (n : Nat) (g : UInt8 → Bool) (h : Stp k (mk (a :: p)) n g) (hg : g (s.getD 0 0) = true) :
    F20.go k (mk (a :: p)) (mk s) 0 = (F20.l_55 k (st ((a :: p).drop n) 1 [] (-1) s)).bind fun y4 => some ((y4.1.1, ()), (), ()) := by
  have h1 := mk_nil (a :: p)
  have h2 : decide ((0 : Int) < ((a :: p).length : Int)) = true := decide_eq_true (by rw [List.length_cons]; omega)
  have h3 : decide ((n : Int) ≤ ((a :: p).length : Int)) = true := decide_eq_true (by have : n ≤ (a :: p).length := h.2.1; omega)
  have h4 := head_ne ha p
  have h5 := ext_mk (a :: p) n (a :: p).length rfl
  have h6 := h.2.2 (mk s) 0 hi
  have h7 : (mk s).data.getD 0 0 = s.getD 0 0 := by
    show (if h : 0 < s.length then s[0] else 0) = s.getD 0 0
    rw [dif_pos hi, List.getD_eq_getElem?_getD, List.getElem?_eq_getElem hi]; rfl
  rw [h7, hg] at h6
  have e0 : ((0 : Nat) : Int) = 0 := rfl
  rw [e0] at h6
  simp only [F20.go, ne_zero hi, mk_size, cond_false]
  show (bif !((mk (a :: p)).toList == (mk []).toList) then _ else _) = _
  rw [h1]
  simp only [h2, h4, List.isEmpty_cons, Bool.not_false, cond_true, h6, Option.bind_some, dec0, h3, Bool.true_and, Int.toNat_natCast, h5, cond_false]
  rfl
theorem g_fail (k : Nat) (p s : List UInt8) (hi : 0 < s.length) (h : Miss k p (s.getD 0 0)) : F20.go k (mk p) (mk s) 0 = some ((false, ()), (), ()) := by
  have h7 : (mk s).data.getD 0 0 = s.getD 0 0 := by
    show (if h : 0 < s.length then s[0] else 0) = s.getD 0 0
    rw [dif_pos hi, List.getD_eq_getElem?_getD, List.getElem?_eq_getElem hi]; rfl
  rcases h with h | ⟨a, r, n, g, h, ha, hS, hg⟩
  · subst h
    have h1 := mk_nil []
    simp only [F20.go, ne_zero hi, mk_size, cond_false]
    show (bif !((mk []).toList == (mk []).toList) then _ else (bif !((mk []).toList == (mk []).toList) then _ else _)) = _
    rw [h1]
    rfl
  · subst h
    have h1 := mk_nil (a :: r)
    have h2 : decide ((0 : Int) < ((a :: r).length : Int)) = true := decide_eq_true (by rw [List.length_cons]; omega)
    have h4 := head_ne ha r
    have h6 := hS.2.2 (mk s) 0 hi
    rw [h7, hg] at h6
    have e0 : ((0 : Nat) : Int) = 0 := rfl
    rw [e0] at h6
    simp only [F20.go, ne_zero hi, mk_size, cond_false]
    show (bif !((mk (a :: r)).toList == (mk []).toList) then _ else _) = _
    rw [h1]
    simp only [h2, h4, List.isEmpty_cons, Bool.not_false, cond_true, cond_false, h6, Option.bind_some]
    rfl
theorem match_eq (k : Nat) (nn : List UInt8 → Nat) (gg : List UInt8 → UInt8 → Bool) (P : Nat) (hP : P ≤ 4000000000) (hS : ∀ a p, (a :: p).length ≤ P → Stp k (mk (a :: p)) (nn (a :: p)) (gg (a :: p))) (s : List UInt8) (hs : s.length ≤ 4000000000) (p : List UInt8) (hp : p.length ≤ P)
    (hk : (s.length + 1) * (P + 1) + p.length < k + 1) : ∃ r, F20.go k (mk p) (mk s) 0 = some ((r, ()), (), ()) ∧ (r = true ↔ M nn gg p s) := by
  obtain ⟨r, h1, h2⟩ := match_loop k nn gg P hP hS s hs (k + 1) p 0 [] none (Nat.zero_le _) hp (Nat.zero_le _) (fun f e => absurd e (by simp)) hk
  refine ⟨r, ?_, ?_⟩
  · by_cases h0 : 0 < s.length
    · have fail : Miss k p (s.getD 0 0) → F20.go k (mk p) (mk s) 0 = some ((r, ()), (), ()) := by
        intro hm
        have h3 := loopN_inr (k := k) (s_fail k p [] s 0 h0 hm)
        have h4 : some ((r, ()), (), ()) = some ((false, ()), (), ()) := h1.symm.trans h3
        rw [g_fail k p s h0 hm, h4]
      cases p with
      | nil => exact fail (Or.inl rfl)
      | cons a p =>
        by_cases ha : a = 42
        · subst ha
          have h3 : loopN (F20.s55 k) (k + 1) (st (42 :: p) 0 [] (-1) s) = some ((r, ()), (), ()) := h1
          rw [loopN_inl (s_star k p [] s (-1) 0 h0)] at h3
          have h4 : F20.l_55 k (st p 0 p 0 s) = some ((r, ()), (), ()) := h3
          rw [g_star k p s h0, h4]; rfl
        · have hst := hS a p hp
          cases hg : gg (a :: p) (s.getD 0 0)
          · exact fail (Or.inr ⟨a, p, _, _, rfl, ha, hst, hg⟩)
          · have h3 : loopN (F20.s55 k) (k + 1) (st (a :: p) 0 [] (-1) s) = some ((r, ()), (), ()) := h1
            rw [loopN_inl (s_one k a p [] s (-1) 0 h0 ha hs _ _ hst hg)] at h3
            have h4 : F20.l_55 k (st ((a :: p).drop (nn (a :: p))) 1 [] (-1) s) = some ((r, ()), (), ()) := h3
            rw [g_one k a p s h0 ha _ _ hst hg, h4]; rfl
    · have hs0 : s = [] := List.length_eq_zero_iff.1 (by omega)
      subst hs0
      have h3 := loopN_inr (k := k) (s_end k p [] [] (-1) (by omega))
      have h4 : some ((r, ()), (), ()) = some ((p.all (· == 42), ()), (), ()) := h1.symm.trans h3
      rw [g_end k p (by omega), h4]
  · rw [h2, List.drop_zero]
    constructor
    · intro h
      cases h with
      | inl h => exact h
      | inr h => obtain ⟨f, j, h3, _⟩ := h; exact absurd h3 (by simp)
    · exact fun h => Or.inl h
end Go.Proofs.Tryd.S

namespace Go.Proofs.Tryd.S
open Go Go.Ev
/-! ### a text quoted -/
def spc (c : UInt8) : Bool := 42 == c || (63 == c || (91 == c || 92 == c))
def esc (c : UInt8) : List UInt8 := bif spc c then [92, c] else [c]
def quo (l : List UInt8) : List UInt8 := l.flatMap esc
def ints (l : List UInt8) : List Int := l.map fun b => ((b.toNat : Nat) : Int)
theorem quo_cons (c : UInt8) (r : List UInt8) : quo (c :: r) = esc c ++ quo r := rfl
theorem quo_take {l : List UInt8} {i : Nat} (h : i < l.length) : quo (l.take (i + 1)) = quo (l.take i) ++ esc l[i] := by
  unfold quo
  rw [take_succ h, List.flatMap_append]
  simp
theorem esc_len (c : UInt8) : 1 ≤ (esc c).length ∧ (esc c).length ≤ 2 := by
  unfold esc
  cases spc c
  · exact ⟨(by show 1 ≤ 1; omega), (by show 1 ≤ 2; omega)⟩
  · exact ⟨(by show 1 ≤ 2; omega), (by show 2 ≤ 2; omega)⟩
theorem quo_len : ∀ l : List UInt8, (quo l).length ≤ 2 * l.length
  | [] => Nat.le_refl _
  | c :: r => by
    have := quo_len r
    have := (esc_len c).2
    rw [quo_cons, List.length_append, List.length_cons]; omega
theorem str_ints (l : List UInt8) : strOf (ints l) = mk l := by
  unfold strOf ints
  rw [List.map_map]
  have : ((fun n : Int => UInt8.ofNat n.toNat) ∘ fun b : UInt8 => ((b.toNat : Nat) : Int)) = id := by
    funext b; simp
  rw [this, List.map_id]
theorem ix_spc (c : UInt8) : decide (ixS (mk [42, 63, 91, 92]) ((c.toNat : Nat) : Int) ≥ 0) = spc c := by
  have e : ∀ (a : UInt8) (r : List UInt8), ixS (mk (a :: r)) ((c.toNat : Nat) : Int) = if a == c then 0 else if ixS (mk r) ((c.toNat : Nat) : Int) == -1 then -1 else ixS (mk r) ((c.toNat : Nat) : Int) + 1 := by
    intro a r
    have h1 : ixS (mk (a :: r)) ((c.toNat : Nat) : Int) = if a == ((c.toNat : Nat) : Int).toNat.toUInt8 then 0 else if ixS (mk r) ((c.toNat : Nat) : Int) == -1 then -1 else ixS (mk r) ((c.toNat : Nat) : Int) + 1 := rfl
    have h2 : ((c.toNat : Nat) : Int).toNat.toUInt8 = c := by simp
    rw [h1, h2]
  have e0 : ixS (mk []) ((c.toNat : Nat) : Int) = -1 := rfl
  rw [e, e, e, e, e0]
  unfold spc
  cases (42 : UInt8) == c
  · cases (63 : UInt8) == c
    · cases (91 : UInt8) == c
      · cases (92 : UInt8) == c <;> rfl
      · rfl
    · rfl
  · rfl
theorem mk_get {l : List UInt8} {i : Nat} (h : i < l.length) : (mk l).data.getD i (OfNat.ofNat 0) = l[i] := by
  show (if h : i < l.length then l[i] else 0) = l[i]
  rw [dif_pos h]
theorem F55_eq (k : Nat) (x : Int) (row : List Int) (h : row.length < big) : F55.go k x row = some (((), ()), (((), (), ()), row ++ [x], ()), ()) := by
  unfold F55.go
  rw [bleB (show (row ++ [x]).length ≤ big by rw [List.length_append, List.length_singleton]; exact h)]; rfl
theorem F26_eq (k : Nat) (l : List UInt8) (hl : l.length ≤ 1048576) (hk : l.length < k) : F26.go k (mk l) = some ((mk (quo l), ()), (), ()) := by
  have loop := loopN_iter (f := F26.s58 k) (fun i => (((i : Int), (), mk l, (l.length : Int), ()), (((), (), ()), ints (quo (l.take i)), ()), ())) l.length (((), ()), (((), (), ()), ints (quo l), ()), ()) (fun i hi => ?_) ?_ k hk
  · have e0 : ((0 : Nat) : Int) = 0 := rfl
    have e1 : ints (quo (l.take 0)) = [] := rfl
    simp only [e0, e1] at loop
    unfold F26.go F26.l_58
    simp only [mk_size]
    rw [loop, Option.bind_some]
    have h1 : Nat.ble (ints (quo l)).length 9223372036854775807 = true := by
      have := quo_len l
      rw [Nat.ble_eq, ints, List.length_map]; omega
    simp only [h1, cond_true, str_ints]
  · have hq := quo_len (l.take i)
    have hlt : (l.take i).length ≤ l.length := by rw [List.length_take]; omega
    have hw := wadd i 1 (by show _ ≤ 140737488351232; omega)
    have e1 : ((1 : Nat) : Int) = 1 := rfl
    rw [e1] at hw
    have hr : (ints (quo (l.take i))).length ≤ 2097152 := by rw [ints, List.length_map]; omega
    have hg := mk_get hi
    have hsp := ix_spc l[i]
    have h54 : F54.go k { data := { toList := [OfNat.ofNat 42, OfNat.ofNat 63, OfNat.ofNat 91, OfNat.ofNat 92] : Array UInt8 } : ByteArray } ((l[i].toNat : Nat) : Int) = some ((ixS (mk [42, 63, 91, 92]) ((l[i].toNat : Nat) : Int), ()), (), ()) := rfl
    simp only [F26.s58, F26.go58, mk_size, lt_dec hi, dec0, Bool.true_and, cond_true, Int.toNat_natCast, hg, h54, Option.bind_some, hsp, hw]
    rw [quo_take hi]
    cases hs : spc l[i]
    · have he : esc l[i] = [l[i]] := by unfold esc; rw [hs]; rfl
      simp only [cond_false]
      rw [F55_eq k _ _ (by show _ < 140737488351232; omega), he]
      simp only [Option.bind_some]
      unfold ints; rw [List.map_append]; rfl
    · have he : esc l[i] = [92, l[i]] := by unfold esc; rw [hs]; rfl
      simp only [cond_true]
      rw [F55_eq k _ _ (by show _ < 140737488351232; omega), he]
      simp only [Option.bind_some]
      rw [F55_eq k _ _ (by rw [List.length_append, List.length_singleton]; show _ < 140737488351232; omega)]
      simp only [Option.bind_some]
      unfold ints; rw [List.map_append, List.append_assoc]; rfl
  · simp only [F26.s58, F26.go58, mk_size, lt_dec', cond_false, List.take_length]
/-! ### it matches itself alone -/
theorem Stp_uniq {k : Nat} {p : ByteArray} {n n' : Nat} {g g' : UInt8 → Bool} (h : Stp k p n g) (h' : Stp k p n' g') : n = n' ∧ ∀ c, g c = g' c := by
  have key : ∀ c, g c = g' c ∧ (n : Int) = (n' : Int) := by
    intro c
    have h1 := h.2.2 (mk [c]) 0 (by show 0 < 1; omega)
    have h2 := h'.2.2 (mk [c]) 0 (by show 0 < 1; omega)
    have h3 := h1.symm.trans h2
    injection h3 with h3
    injection h3 with h3
    injection h3 with h3
    injection h3 with h4 h5
    injection h5 with h5
    exact ⟨h4, h5⟩
  exact ⟨by have := (key 0).2; omega, fun c => (key c).1⟩
theorem byte_beq (a : UInt8) (n : Nat) (hn : n < 256) (h : (a == UInt8.ofNat n) = false) : (((a.toNat : Nat) : Int) == (n : Int)) = false := by
  rw [beq_eq_false_iff_ne] at h ⊢
  intro e
  have e' : a.toNat = n := by omega
  exact h (by rw [← e']; simp)
theorem beq_comm8 (a b : UInt8) : (a == b) = (b == a) := by
  by_cases h : a = b
  · subst h; rfl
  · rw [beq_eq_false_iff_ne.2 h, beq_eq_false_iff_ne.2 (fun e => h e.symm)]
theorem lit1 (k : Nat) (a : UInt8) (r : List UInt8) (h1 : (63 == a) = false) (h2 : (91 == a) = false) (h3 : (92 == a) = false) : Stp k (mk (a :: r)) 1 (fun x => ((a.toNat : Nat) : Int) == ((x.toNat : Nat) : Int)) := by
  have d0 : decide ((0 : Int) < ((a :: r).length : Int)) = true := decide_eq_true (by rw [List.length_cons]; omega)
  have g1 : (((a.toNat : Nat) : Int) == 63) = false := byte_beq a 63 (by omega) (by rw [beq_comm8]; exact h1)
  have g2 : (((a.toNat : Nat) : Int) == 91) = false := byte_beq a 91 (by omega) (by rw [beq_comm8]; exact h2)
  have g3 : (((a.toNat : Nat) : Int) == 92) = false := byte_beq a 92 (by omega) (by rw [beq_comm8]; exact h3)
  refine ⟨Nat.le_refl _, by rw [mk_size, List.length_cons]; omega, fun s i hi => ?_⟩
  have hg : (mk (a :: r)).data.getD 0 (OfNat.ofNat 0) = a := rfl
  unfold F50.go F77.go
  simp only [mk_size, d0, cond_true, hg, g1, g2, g3, cond_false, Option.bind_some, dec0, lt_dec hi, Bool.true_and, Int.toNat_natCast, F78_z]
  rfl
theorem lit2 (k : Nat) (a : UInt8) (r : List UInt8) : Stp k (mk (92 :: a :: r)) 2 (fun x => ((a.toNat : Nat) : Int) == ((x.toNat : Nat) : Int)) := by
  have d0 : decide ((0 : Int) < ((92 :: a :: r).length : Int)) = true := decide_eq_true (by simp only [List.length_cons]; omega)
  have d1 : decide (((92 :: a :: r).length : Int) > 1) = true := decide_eq_true (by simp only [List.length_cons]; omega)
  have d2 : decide ((1 : Int) < ((92 :: a :: r).length : Int)) = true := d1
  obtain ⟨_, _, z4, _⟩ := F79_z k
  refine ⟨by omega, by rw [mk_size]; simp only [List.length_cons]; omega, fun s i hi => ?_⟩
  have hg : (mk (92 :: a :: r)).data.getD 0 (OfNat.ofNat 0) = 92 := rfl
  have hg1 : (mk (92 :: a :: r)).data.getD 1 (OfNat.ofNat 0) = a := rfl
  have g1 : ((((92 : UInt8).toNat : Nat) : Int) == 63) = false := rfl
  have g2 : ((((92 : UInt8).toNat : Nat) : Int) == 91) = false := rfl
  have g3 : ((((92 : UInt8).toNat : Nat) : Int) == 92) = true := rfl
  unfold F50.go F77.go
  simp only [mk_size, d0, d1, d2, cond_true, hg, hg1, g1, g2, g3, z4, cond_false, Option.bind_some, Bool.not_false, dec0, lt_dec hi, Bool.true_and, Int.toNat_natCast, F78_z]
  rfl
theorem byte_eq {a x : UInt8} (h : (((a.toNat : Nat) : Int) == ((x.toNat : Nat) : Int)) = true) : a = x := by
  have : ((a.toNat : Nat) : Int) = ((x.toNat : Nat) : Int) := by simpa using h
  exact UInt8.toNat_inj.1 (by omega)
theorem quo_M (k : Nat) (nn : List UInt8 → Nat) (gg : List UInt8 → UInt8 → Bool) : ∀ (l t : List UInt8), (∀ a p, (a :: p).length ≤ (quo l).length → Stp k (mk (a :: p)) (nn (a :: p)) (gg (a :: p))) → (M nn gg (quo l) t ↔ t = l)
  | [], t, hS => ⟨fun h => M_nil_to h rfl, fun h => by subst h; exact M.nil⟩
  | c :: r, t, hS => by
    rw [quo_cons] at hS ⊢
    have key : ∀ (a : UInt8) (p : List UInt8), esc c ++ quo r = a :: p → a ≠ 42 → Stp k (mk (a :: p)) (esc c).length (fun x => ((c.toNat : Nat) : Int) == ((x.toNat : Nat) : Int)) → (M nn gg (a :: p) t ↔ t = c :: r) := by
      intro a p he ha hst
      have hL : (quo r).length ≤ (esc c ++ quo r).length := by rw [List.length_append]; omega
      have ih := fun t => quo_M k nn gg r t (fun a p h => hS a p (Nat.le_trans h hL))
      have hst' := hS a p (by rw [he]; exact Nat.le_refl _)
      obtain ⟨u1, u2⟩ := Stp_uniq hst' hst
      have hdrop : (a :: p).drop (nn (a :: p)) = quo r := by rw [u1, ← he, List.drop_left]
      constructor
      · intro h
        obtain ⟨x, t', e, h1, h2⟩ := M_one_to ha h rfl
        rw [u2] at h1
        rw [hdrop] at h2
        have := (ih t').1 h2
        rw [e, this, byte_eq h1]
      · intro h
        subst h
        refine M.one ha ?_ ?_
        · rw [u2]; exact beq_self_eq_true _
        · rw [hdrop]; exact (ih r).2 rfl
    cases hs : spc c
    · have he : esc c = [c] := by unfold esc; rw [hs]; rfl
      have hb : (42 == c) = false ∧ (63 == c) = false ∧ (91 == c) = false ∧ (92 == c) = false := by
        unfold spc at hs
        simpa only [Bool.or_eq_false_iff] using hs
      have h42 : c ≠ 42 := fun e => by subst e; exact absurd hb.1 (by decide)
      have := key c (quo r) (by rw [he]; rfl) h42 (by rw [he]; exact lit1 k c (quo r) hb.2.1 hb.2.2.1 hb.2.2.2)
      rw [he]; exact this
    · have he : esc c = [92, c] := by unfold esc; rw [hs]; rfl
      have := key 92 (c :: quo r) (by rw [he]; rfl) (by decide) (by rw [he]; exact lit2 k c (quo r))
      rw [he]; exact this
/-! ### nothing in it is magic -/
theorem quo_split {l : List UInt8} {j : Nat} (h : j < l.length) : quo l = quo (l.take j) ++ (esc l[j] ++ quo (l.drop (j + 1))) := by
  have e : l = l.take j ++ (l[j] :: l.drop (j + 1)) := by rw [← List.drop_eq_getElem_cons h, List.take_append_drop]
  have : quo l = quo (l.take j ++ (l[j] :: l.drop (j + 1))) := congrArg quo e
  rw [this]
  unfold quo
  rw [List.flatMap_append, List.flatMap_cons]
theorem F24_eq (k : Nat) (l : List UInt8) (hl : l.length ≤ 1048576) (hk : l.length < k) : F24.go k (mk (quo l)) = some ((false, ()), (), ()) := by
  have hq := quo_len l
  have loop := loopN_iter (f := F24.s26 k) (fun j => ((((quo (l.take j)).length : Int), mk (quo l), ()), (), ())) l.length (.inr ((), (), ())) (fun j hj => ?_) ?_ k hk
  · unfold F24.go F24.l_26
    have e0 : (((quo (l.take 0)).length : Nat) : Int) = 0 := rfl
    simp only [e0] at loop
    rw [loop]; rfl
  · have hs := quo_split hj
    have he := esc_len l[j]
    have hlt : (quo (l.take j)).length < (quo l).length := by rw [hs, List.length_append, List.length_append]; omega
    obtain ⟨m, hm⟩ : ∃ m, m = (quo (l.take j)).length := ⟨_, rfl⟩
    have hnext : (quo (l.take (j + 1))).length = m + (esc l[j]).length := by rw [quo_take hj, List.length_append, hm]
    rw [← hm] at hlt
    simp only [hnext, ← hm]
    have hget : (quo l)[m] = (esc l[j])[0]'(by omega) := by
      have h1 : (quo l)[m]? = (esc l[j])[0]? := by
        rw [hs, List.getElem?_append_right (by omega), hm, Nat.sub_self, List.getElem?_append_left (by omega)]
      rw [List.getElem?_eq_getElem hlt, List.getElem?_eq_getElem (by omega)] at h1
      injection h1
    have hw1 := wadd m 1 (by show _ ≤ 140737488351232; omega)
    have hw2 := wadd (m + 1) 1 (by show _ ≤ 140737488351232; omega)
    have e1 : ((1 : Nat) : Int) = 1 := rfl
    rw [e1] at hw1 hw2
    simp only [F24.s26, F24.go26, mk_size, lt_dec hlt, dec0, Bool.true_and, cond_true, Int.toNat_natCast, mk_get hlt, hget]
    cases hsp : spc l[j]
    · have hee : esc l[j] = [l[j]] := by unfold esc; rw [hsp]; rfl
      have hb : (42 == l[j]) = false ∧ (63 == l[j]) = false ∧ (91 == l[j]) = false ∧ (92 == l[j]) = false := by
        unfold spc at hsp
        simpa only [Bool.or_eq_false_iff] using hsp
      have hh : (esc l[j])[0]'(by omega) = l[j] := by simp only [hee]; rfl
      have g0 : (((l[j].toNat : Nat) : Int) == 42) = false := byte_beq _ 42 (by omega) (by rw [beq_comm8]; exact hb.1)
      have g1 : (((l[j].toNat : Nat) : Int) == 63) = false := byte_beq _ 63 (by omega) (by rw [beq_comm8]; exact hb.2.1)
      have g2 : (((l[j].toNat : Nat) : Int) == 91) = false := byte_beq _ 91 (by omega) (by rw [beq_comm8]; exact hb.2.2.1)
      have g3 : (((l[j].toNat : Nat) : Int) == 92) = false := byte_beq _ 92 (by omega) (by rw [beq_comm8]; exact hb.2.2.2)
      simp only [hh, g0, g1, g2, g3, cond_false, F24.go3365, Option.bind_some, Sum.elim_inr, hw1]
      rw [hee]; rfl
    · have hee : esc l[j] = [92, l[j]] := by unfold esc; rw [hsp]; rfl
      have hh : (esc l[j])[0]'(by omega) = 92 := by simp only [hee]; rfl
      have g0 : ((((92 : UInt8).toNat : Nat) : Int) == 42) = false := rfl
      have g1 : ((((92 : UInt8).toNat : Nat) : Int) == 63) = false := rfl
      have g2 : ((((92 : UInt8).toNat : Nat) : Int) == 91) = false := rfl
      have g3 : ((((92 : UInt8).toNat : Nat) : Int) == 92) = true := rfl
      simp only [hh, g0, g1, g2, g3, cond_false, cond_true, F24.go3365, Option.bind_some, Sum.elim_inr, hw1, hw2]
      rw [hee]; rfl
  · have : l.take l.length = l := List.take_length
    simp only [F24.s26, F24.go26, mk_size, this, lt_dec', cond_false]
theorem globQuotes (a0 a1 : ByteArray) (h0 : a0.size ≤ 1048576) (h1 : a1.size ≤ 1048576) : F8.go (9000000000000 + 300) a0 a1 = some ((true, ()), (), ()) := by
  have hA := awakeK 9000000000000
  obtain ⟨k, hk⟩ : ∃ k, k = 9000000000000 + 300 := ⟨_, rfl⟩
  rw [← hk] at hA ⊢
  obtain ⟨⟨s⟩⟩ := a0
  obtain ⟨⟨t⟩⟩ := a1
  have h0 : s.length ≤ 1048576 := h0
  have h1 : t.length ≤ 1048576 := h1
  have hT : ∀ l : List UInt8, ∃ ng : Nat × (UInt8 → Bool), l ≠ [] → l.length ≤ 2097153 → Stp k (mk l) ng.1 ng.2 := by
    intro l
    by_cases h0 : 0 < l.length
    · by_cases h1 : l.length ≤ 2097153
      · obtain ⟨n, g, h⟩ := F50_tot k (by omega) (mk l) (by rw [mk_size]; omega) (by rw [mk_size]; omega) h0
        exact ⟨(n, g), fun _ _ => h⟩
      · exact ⟨(0, fun _ => false), fun _ h => absurd h h1⟩
    · exact ⟨(0, fun _ => false), fun h => absurd (List.length_eq_zero_iff.1 (by omega)) h⟩
  obtain ⟨ng, hng⟩ := Classical.axiomOfChoice hT
  have hS : ∀ x q, (x :: q).length ≤ 2097153 → Stp k (mk (x :: q)) ((fun l => (ng l).1) (x :: q)) ((fun l => (ng l).2) (x :: q)) := fun x q h => hng _ (by simp) h
  have hM : ∀ (q t : List UInt8), q.length ≤ 2097153 → t.length ≤ 1048576 → ∃ r, F20.go k (mk q) (mk t) 0 = some ((r, ()), (), ()) ∧ (r = true ↔ M (fun l => (ng l).1) (fun l => (ng l).2) q t) := by
    intro q t hq ht
    have hmul : (t.length + 1) * (2097153 + 1) ≤ 1048577 * (2097153 + 1) := Nat.mul_le_mul_right _ (by omega)
    exact match_eq k _ _ 2097153 (by omega) hS t (by omega) q hq (by omega)
  have hql := quo_len s
  have hqm := fun t => quo_M k (fun l => (ng l).1) (fun l => (ng l).2) s t (fun a p h => hS a p (by omega))
  obtain ⟨r1, e1, e1'⟩ := hM (quo s) s (by omega) h0
  obtain ⟨r2, e2, e2'⟩ := hM (quo s) t (by omega) h1
  obtain ⟨r3, e3, e3'⟩ := hM [42] s (by decide) h0
  have t1 : r1 = true := e1'.2 ((hqm s).2 rfl)
  have t3 : r3 = true := e3'.2 (M_star_of s s.length (by rw [List.drop_length]; exact M.nil))
  subst t1
  subst t3
  have e3c : F20.go k { data := { toList := [OfNat.ofNat 42] : Array UInt8 } : ByteArray } (mk s) 0 = some ((true, ()), (), ()) := e3
  unfold F8.go
  simp only [F26_eq k s h0 (by omega), F24_eq k s h0 (by omega), Option.bind_some, e1, e2, e3c, hA, cond_true, Bool.not_false]
  rw [Lib.toList_data, Lib.toList_data]
  by_cases hst : s = t
  · subst hst
    have : (s == s) = true := beq_self_eq_true _
    simp only [this, cond_true]
  · have hb : (s == t) = false := beq_eq_false_iff_ne.2 hst
    have t2 : r2 = false := by
      cases hr : r2
      · rfl
      · exact absurd ((hqm t).1 (e2'.1 hr)).symm hst
    subst t2
    simp only [hb, cond_false, cond_true, Bool.not_false]
end Go.Proofs.Tryd.S

