/- The plain law: what the functions that the law compares make is the same, over lists and numbers alone. -/
import Derived.Test.YtpobfjefkefadaaDoorKeysWalk
import Derived.Test.YtpobfjefkefadaaDoorEv5
set_option linter.unusedVariables false
set_option linter.unusedSimpArgs false
set_option linter.unusedSectionVars false
set_option maxRecDepth 100000
namespace Go.Proofs.Tryd.S
open Go Go.Ev
theorem loopN_inr {A B : Type} {f : A → Option (A ⊕ B)} {k : Nat} {x : A} {y : B} (h : f x = some (.inr y)) : loopN f (k + 1) x = some y := by
  unfold loopN; rw [h]
theorem loopN_inl {A B : Type} {f : A → Option (A ⊕ B)} {k : Nat} {x x' : A} (h : f x = some (.inl x')) : loopN f (k + 1) x = loopN f k x' := by
  rw [loopN, h]
abbrev big : Nat := 140737488351232
theorem wz (n : Nat) (h : n ≤ big) : IntKind.i64.wrap (n : Int) = (n : Int) := by
  have h' : n ≤ 140737488351232 := h
  rw [wrap_id (by omega) (by omega)]
theorem wadd1 (a : Nat) (h : a + 1 ≤ big) : IntKind.i64.wrap ((a : Int) + 1) = ((a + 1 : Nat) : Int) := by
  have h' : a + 1 ≤ 140737488351232 := h
  rw [wrap_id (by omega) (by omega)]; omega
theorem tl_nil (a : List UInt8) : ((arr a).toList == (⟨⟨[]⟩⟩ : ByteArray).toList) = a.isEmpty := by
  rw [arr_toList, show (⟨⟨[]⟩⟩ : ByteArray).toList = [] from arr_toList []]; cases a <;> rfl
theorem dec0 (p : Nat) : decide ((0 : Int) ≤ (p : Int)) = true := decide_eq_true (by omega)
theorem ltD {i n : Nat} (h : i < n) : decide ((i : Int) < (n : Int)) = true := decide_eq_true (by omega)
theorem leD {i n : Nat} (h : i ≤ n) : decide ((i : Int) ≤ (n : Int)) = true := decide_eq_true (by omega)
theorem ltN {i n : Nat} (h : ¬ i < n) : decide ((i : Int) < (n : Int)) = false := decide_eq_false (by omega)
theorem extE (l : List UInt8) (i n : Nat) (h : n = l.length) : (arr l).extract i n = arr (l.drop i) := by subst h; exact arr_extract_size l i
/-! ### digits -/
def isD (c : UInt8) : Bool := decide ((c.toNat : Int) ≥ 48) && decide ((c.toNat : Int) ≤ 57)
/-- a digit more -/
def more (n : Int) (c : UInt8) : Int := IntKind.i64.wrap (IntKind.i64.wrap (n * 10) + IntKind.i64.wrap (IntKind.u8.wrap ((c.toNat : Int) - 48)))
theorem F69_step (q : Nat) (b : List UInt8) (i : Nat) (n : Int) (h : b.length ≤ big) : F69.s28 q ((arr b, (i : Int), n, ()), (), ()) =
    if i < b.length ∧ isD (b.getD i 0) = true then (if 9 < i + 1 then some (.inr (.inl ((-1, arr b, ()), (), ()))) else some (.inl ((arr b, ((i + 1 : Nat) : Int), more n (b.getD i 0), ()), (), ())))
    else some (.inr (.inr ((arr b, (i : Int), n, ()), (), ()))) := by
  show F69.go28 q (arr b) (i : Int) n = _
  unfold F69.go28
  rw [arr_size]
  by_cases h1 : i < b.length
  · have h2 : i + 1 ≤ big := by omega
    rw [ltD h1, dec0, Int.toNat_natCast, arr_get, wadd1 i h2]
    unfold isD more
    simp only [cond_true, Bool.and_true, Bool.true_and, h1, true_and]
    cases h3 : decide (((b.getD i 0).toNat : Int) ≥ 48)
    · simp
    · cases h4 : decide (((b.getD i 0).toNat : Int) ≤ 57)
      · simp
      · simp only [cond_true, Bool.and_self, if_true]
        by_cases h5 : 9 < i + 1
        · rw [if_pos h5, decide_eq_true (by omega : ((i + 1 : Nat) : Int) > 9)]; rfl
        · rw [if_neg h5, decide_eq_false (by omega : ¬ ((i + 1 : Nat) : Int) > 9)]; rfl
  · rw [ltN h1, if_neg (by simp [h1])]; rfl
theorem F47_eq (k : Nat) (c : UInt8) : F47.go k (c.toNat : Int) = some ((isD c, ()), (), ()) := by
  unfold F47.go isD
  cases h3 : decide ((c.toNat : Int) ≥ 48) <;> rfl
theorem F71_step (q : Nat) (b : List UInt8) (i : Nat) (n : Int) (h : b.length ≤ big) : F71.s28 q (((i : Int), arr b, n, ()), (), ()) =
    if i < b.length ∧ isD (b.getD i 0) = true then (if i = 9 then some (.inr (.inl ((0, 0, ()), (), ()))) else some (.inl ((((i + 1 : Nat) : Int), arr b, more n (b.getD i 0), ()), (), ())))
    else some (.inr (.inr (((i : Int), n, ()), (), ()))) := by
  show F71.go28 q (i : Int) (arr b) n = _
  unfold F71.go28
  rw [arr_size]
  by_cases h1 : i < b.length
  · have h2 : i + 1 ≤ big := by omega
    rw [ltD h1, dec0, Int.toNat_natCast, arr_get, wadd1 i h2, F47_eq]
    unfold more
    simp only [cond_true, Bool.and_true, Bool.true_and, Option.bind_some, h1, true_and]
    cases h3 : isD (b.getD i 0)
    · simp
    · simp only [cond_true, if_true]
      by_cases h5 : i = 9
      · subst h5; rfl
      · rw [if_neg h5]
        have : (((i : Nat) : Int) == 9) = false := by
          rw [beq_eq_false_iff_ne]; omega
        rw [this]; rfl
  · rw [ltN h1, if_neg (by simp [h1])]; rfl
theorem isD_spec {c : UInt8} (h : isD c = true) : 48 ≤ c.toNat ∧ c.toNat ≤ 57 := by
  unfold isD at h
  simp only [Bool.and_eq_true, decide_eq_true_eq] at h
  omega
theorem more_eq {n : Nat} {c : UInt8} (hn : n ≤ 1000000000) (h : isD c = true) : more (n : Int) c = ((n * 10 + (c.toNat - 48) : Nat) : Int) := by
  obtain ⟨h1, h2⟩ := isD_spec h
  unfold more
  have e : IntKind.u8.wrap ((c.toNat : Int) - 48) = (c.toNat : Int) - 48 := by
    rw [IntKind.wrap_u8]; omega
  rw [e, wrap_id (n := (n : Int) * 10) (by omega) (by omega), wrap_id (n := (c.toNat : Int) - 48) (by omega) (by omega), wrap_id (by omega) (by omega)]
  omega
/-- both walks of the digits -/
theorem digits_loop (b : List UInt8) (h : b.length ≤ big) (p q : Nat) : ∀ (f i n : Nat), b.length < f + i → i ≤ 9 → n + 1 ≤ 10 ^ i → i ≤ b.length →
    (loopN (F69.s28 p) f ((arr b, (i : Int), (n : Int), ()), (), ()) = some (.inl ((-1, arr b, ()), (), ())) ∧ loopN (F71.s28 q) f (((i : Int), arr b, (n : Int), ()), (), ()) = some (.inl ((0, 0, ()), (), ()))) ∨
    ∃ i' n' : Nat, i' ≤ b.length ∧ (i' = 0 → n' = 0) ∧ loopN (F69.s28 p) f ((arr b, (i : Int), (n : Int), ()), (), ()) = some (.inr ((arr b, (i' : Int), (n' : Int), ()), (), ())) ∧
      loopN (F71.s28 q) f (((i : Int), arr b, (n : Int), ()), (), ()) = some (.inr (((i' : Int), (n' : Int), ()), (), ())) := by
  intro f
  induction f with
  | zero => intro i n h1 h2 h3 h4; omega
  | succ f ih =>
    intro i n h1 h2 h3 h4
    have s1 := F69_step p b i (n : Int) h
    have s2 := F71_step q b i (n : Int) h
    have hp : 10 ^ i ≤ 10 ^ 9 := Nat.pow_le_pow_right (by omega) h2
    have hp' : 10 ^ i ≤ 1000000000 := hp
    by_cases c : i < b.length ∧ isD (b.getD i 0) = true
    · rw [if_pos c] at s1 s2
      by_cases c9 : i = 9
      · rw [if_pos c9] at s2
        rw [if_pos (by omega)] at s1
        exact .inl ⟨loopN_inr s1, loopN_inr s2⟩
      · rw [if_neg c9] at s2
        rw [if_neg (by omega)] at s1
        have hm := more_eq (n := n) (c := b.getD i 0) (by omega) c.2
        rw [hm] at s1 s2
        rw [loopN_inl s1, loopN_inl s2]
        have hd := isD_spec c.2
        refine ih (i + 1) _ (by omega) (by omega) ?_ (by omega)
        rw [Nat.pow_succ]; omega
    · rw [if_neg c] at s1 s2
      refine .inr ⟨i, n, h4, fun e => ?_, loopN_inr s1, loopN_inr s2⟩
      subst e
      simp at h3; exact h3
/-- digits: both are none, or both are the same number and as long -/
theorem digits_eq (b : List UInt8) (h : b.length ≤ big) (p q : Nat) (hp : b.length < p) (hq : b.length < q) (hpq : p = q) :
    (F69.go p (arr b) = some (((-1, arr b, ()), ()), (), ()) ∧ ∃ v : Int, F71.go q (arr b) = some (((v, 0, ()), ()), (), ())) ∨
    ∃ i n : Nat, 0 < i ∧ i ≤ b.length ∧ F69.go p (arr b) = some ((((n : Int), arr (b.drop i), ()), ()), (), ()) ∧ F71.go q (arr b) = some ((((n : Int), (i : Int), ()), ()), (), ()) := by
  subst hpq
  have e1 : F69.go p (arr b) = Option.bind (loopN (F69.s28 p) p ((arr b, ((0 : Nat) : Int), ((0 : Nat) : Int), ()), (), ())) _ := rfl
  have e2 : F71.go p (arr b) = Option.bind (loopN (F71.s28 p) p ((((0 : Nat) : Int), arr b, ((0 : Nat) : Int), ()), (), ())) _ := rfl
  rw [e1, e2]
  rcases digits_loop b h p p p 0 0 (by omega) (by omega) (by simp) (by omega) with ⟨h1, h2⟩ | ⟨i, n, hi, hz, h1, h2⟩
  · rw [h1, h2]
    exact .inl ⟨rfl, 0, rfl⟩
  · rw [h1, h2]
    by_cases c : i = 0
    · subst c
      exact .inl ⟨rfl, _, rfl⟩
    · refine .inr ⟨i, n, by omega, hi, ?_, rfl⟩
      simp only [Option.bind_some, Sum.elim_inr]
      have hb : ((i : Int) == 0) = false := by rw [beq_eq_false_iff_ne]; omega
      rw [hb, arr_size, dec0, leD hi, Int.toNat_natCast, extE b i _ rfl]; rfl
end Go.Proofs.Tryd.S

namespace Go.Proofs.Tryd.S
open Go Go.Ev
/-! ### letters -/
def flagOf (c : UInt8) : Int := bif (c.toNat : Int) == 110 then 1 else bif (c.toNat : Int) == 114 then 2 else bif (c.toNat : Int) == 102 then 4 else bif (c.toNat : Int) == 98 then 8 else bif (c.toNat : Int) == 100 then 16 else 0
def orI (a b : Int) : Int := IntKind.i64.wrap (((BitVec.ofInt 64 a ||| BitVec.ofInt 64 b).toNat : Nat) : Int)
theorem F70_eq (k : Nat) (c : UInt8) : F70.go k (c.toNat : Int) = some ((flagOf c, ()), (), ()) := by
  unfold F70.go flagOf
  cases (c.toNat : Int) == 110 <;> cases (c.toNat : Int) == 114 <;> cases (c.toNat : Int) == 102 <;> cases (c.toNat : Int) == 98 <;> cases (c.toNat : Int) == 100 <;> rfl
theorem isE (b : List UInt8) : (!(arr b).toList == (⟨⟨[]⟩⟩ : ByteArray).toList) = !b.isEmpty := by rw [tl_nil]
theorem F37_nil (q : Nat) (fl c f : Int) : F37.s252 q ((arr [], fl, c, f, ()), (), ()) = some (.inr (.inr ((arr [], fl, c, f, ()), (), ()))) := by
  show F37.go252 q (arr []) fl c f = _
  unfold F37.go252
  rw [isE]; rfl
theorem F37_cons (q : Nat) (x : UInt8) (r : List UInt8) (fl c f : Int) : F37.s252 q ((arr (x :: r), fl, c, f, ()), (), ()) =
    if (x.toNat : Int) = 44 then some (.inr (.inr ((arr (x :: r), fl, c, f, ()), (), ())))
      else if flagOf x = 0 then some (.inr (.inl ((0, 0, 0, arr [], false, ()), (), ()))) else some (.inl ((arr r, orI fl (flagOf x), c, f, ()), (), ())) := by
  show F37.go252 q (arr (x :: r)) fl c f = _
  unfold F37.go252
  rw [isE, arr_size]
  have h0 : decide ((0 : Int) < (((x :: r).length : Nat) : Int)) = true := decide_eq_true (by simp only [List.length_cons]; omega)
  have h1 : decide ((1 : Int) ≤ (((x :: r).length : Nat) : Int)) = true := decide_eq_true (by simp only [List.length_cons]; omega)
  have hg : Array.getD (arr (x :: r)).data 0 (OfNat.ofNat 0) = x := rfl
  rw [h0, h1, hg, extE (x :: r) 1 _ rfl]
  simp only [List.isEmpty_cons, Bool.not_false, cond_true, List.drop_one, List.tail_cons]
  by_cases hc : (x.toNat : Int) = 44
  · rw [if_pos hc]
    have : ((x.toNat : Int) != 44) = false := by simp [hc]
    rw [this]; rfl
  · rw [if_neg hc]
    have : ((x.toNat : Int) != 44) = true := by simp [hc]
    rw [this, F70_eq]
    simp only [cond_true, Option.bind_some]
    by_cases hf : flagOf x = 0
    · rw [if_pos hf, hf]; rfl
    · rw [if_neg hf]
      have : (flagOf x == 0) = false := by simp [hf]
      rw [this]; rfl
theorem F38_step (q : Nat) (w : List UInt8) (i : Nat) (fl c f : Int) (h : w.length ≤ big) : F38.s508 q (((i : Int), fl, c, f, arr w, ()), (), ()) =
    if i < w.length then (if flagOf (w.getD i 0) = 0 then some (.inr (.inl ((f, c, fl, (i : Int), ()), (), ()))) else some (.inl ((((i + 1 : Nat) : Int), orI fl (flagOf (w.getD i 0)), c, f, arr w, ()), (), ())))
    else some (.inr (.inr (((i : Int), fl, c, f, ()), (), ()))) := by
  show F38.go508 q (i : Int) fl c f (arr w) = _
  unfold F38.go508
  rw [arr_size]
  by_cases h1 : i < w.length
  · have h2 : i + 1 ≤ big := by omega
    rw [ltD h1, dec0, Int.toNat_natCast, arr_get, wadd1 i h2, if_pos h1]
    simp only [cond_true, Bool.and_true, Bool.true_and]
    unfold flagOf orI
    generalize w.getD i 0 = x
    cases (x.toNat : Int) == 110 <;> cases (x.toNat : Int) == 114 <;> cases (x.toNat : Int) == 102 <;> cases (x.toNat : Int) == 98 <;> cases (x.toNat : Int) == 100 <;> rfl
  · rw [ltN h1, if_neg h1]; rfl
theorem flag_comma {x : UInt8} (h : (x.toNat : Int) = 44) : flagOf x = 0 := by
  unfold flagOf; rw [h]; rfl
/-- both walks of the letters -/
theorem letters_loop (w : List UInt8) (h : w.length ≤ big) (p q : Nat) (c f : Int) : ∀ (n k k' i : Nat) (fl : Int), w.length - i = n → i ≤ w.length → n < k → n < k' →
    ∃ (i' : Nat) (fl' : Int), i ≤ i' ∧ i' ≤ w.length ∧
      (loopN (F38.s508 q) k' (((i : Int), fl, c, f, arr w, ()), (), ()) = some (.inl ((f, c, fl', (i' : Int), ()), (), ())) ∨ loopN (F38.s508 q) k' (((i : Int), fl, c, f, arr w, ()), (), ()) = some (.inr (((i' : Int), fl', c, f, ()), (), ()))) ∧
      ((i' < w.length ∧ (w.getD i' 0).toNat ≠ 44 ∧ loopN (F37.s252 p) k ((arr (w.drop i), fl, c, f, ()), (), ()) = some (.inl ((0, 0, 0, arr [], false, ()), (), ()))) ∨
       ((i' < w.length → (w.getD i' 0).toNat = 44) ∧ loopN (F37.s252 p) k ((arr (w.drop i), fl, c, f, ()), (), ()) = some (.inr ((arr (w.drop i'), fl', c, f, ()), (), ())))) := by
  intro n
  induction n with
  | zero =>
    intro k k' i fl hn hi hk hk'
    have hil : i = w.length := by omega
    obtain ⟨k, rfl⟩ : ∃ j, k = j + 1 := ⟨k - 1, by omega⟩
    obtain ⟨k', rfl⟩ : ∃ j, k' = j + 1 := ⟨k' - 1, by omega⟩
    have s2 := F38_step q w i fl c f h
    rw [if_neg (by omega)] at s2
    have s1 := F37_nil p fl c f
    have hd : w.drop i = [] := by rw [hil]; exact List.drop_length
    refine ⟨i, fl, Nat.le_refl _, hi, .inr (loopN_inr s2), .inr ⟨fun hh => by omega, ?_⟩⟩
    rw [hd]
    exact loopN_inr s1
  | succ n ih =>
    intro k k' i fl hn hi hk hk'
    have hil : i < w.length := by omega
    obtain ⟨k, rfl⟩ : ∃ j, k = j + 1 := ⟨k - 1, by omega⟩
    obtain ⟨k', rfl⟩ : ∃ j, k' = j + 1 := ⟨k' - 1, by omega⟩
    have s2 := F38_step q w i fl c f h
    rw [if_pos hil] at s2
    have s1 := F37_cons p (w.getD i 0) (w.drop (i + 1)) fl c f
    have hd : w.drop i = w.getD i 0 :: w.drop (i + 1) := by
      rw [List.drop_eq_getElem_cons hil, List.getD_eq_getElem?_getD, List.getElem?_eq_getElem hil]; rfl
    rw [hd]
    by_cases hc : ((w.getD i 0).toNat : Int) = 44
    · rw [if_pos hc] at s1
      rw [if_pos (flag_comma hc)] at s2
      refine ⟨i, fl, Nat.le_refl _, hi, .inl (loopN_inr s2), .inr ⟨fun _ => by omega, ?_⟩⟩
      rw [hd]; exact loopN_inr s1
    · rw [if_neg hc] at s1
      by_cases hf : flagOf (w.getD i 0) = 0
      · rw [if_pos hf] at s1 s2
        exact ⟨i, fl, Nat.le_refl _, hi, .inl (loopN_inr s2), .inl ⟨hil, by omega, loopN_inr s1⟩⟩
      · rw [if_neg hf] at s1 s2
        rw [loopN_inl s1, loopN_inl s2]
        obtain ⟨i', fl', g1, g2, g3, g4⟩ := ih k k' (i + 1) (orI fl (flagOf (w.getD i 0))) (by omega) (by omega) (by omega) (by omega)
        exact ⟨i', fl', by omega, g2, g3, g4⟩
/-- the letters behind a place -/
theorem tail_eq (w : List UInt8) (h : w.length ≤ big) (k i : Nat) (hi : i ≤ w.length) (hk : w.length < k) (c f : Int) :
    ∃ (i' : Nat) (fl' : Int), i ≤ i' ∧ i' ≤ w.length ∧ F38.go63 k (i : Int) c f (arr w) = some ((f, c, fl', (i' : Int), ()), (), ()) ∧
      ((i' < w.length ∧ (w.getD i' 0).toNat ≠ 44 ∧ F37.go63 k (arr (w.drop i)) 0 c f = some ((0, 0, 0, arr [], false, ()), (), ())) ∨
       ((i' < w.length → (w.getD i' 0).toNat = 44) ∧ F37.go63 k (arr (w.drop i)) 0 c f = some ((f, c, fl', arr (w.drop i'), true, ()), (), ()))) := by
  obtain ⟨i', fl', g1, g2, g3, g4⟩ := letters_loop w h k k c f (w.length - i) k k i 0 rfl hi (by omega) (by omega)
  refine ⟨i', fl', g1, g2, ?_, ?_⟩
  · show Option.bind (loopN (F38.s508 k) k (((i : Int), 0, c, f, arr w, ()), (), ())) _ = _
    rcases g3 with g3 | g3 <;> rw [g3] <;> rfl
  · have e : F37.go63 k (arr (w.drop i)) 0 c f = Option.bind (loopN (F37.s252 k) k ((arr (w.drop i), 0, c, f, ()), (), ())) _ := rfl
    rw [e]
    rcases g4 with ⟨q1, q2, q3⟩ | ⟨q1, q3⟩ <;> rw [q3]
    · exact .inl ⟨q1, q2, rfl⟩
    · exact .inr ⟨q1, rfl⟩
/-- what both make of F[.C][LETTERS] -/
theorem half_eq (w : List UInt8) (h : w.length ≤ big) (k : Nat) (hk : w.length < k) :
    (∃ a b c : Int, (∃ r, F37.go k (arr w) = some (((0, 0, 0, r, false, ()), ()), (), ())) ∧ F38.go k (arr w) = some (((a, b, c, 0, ()), ()), (), ())) ∨
    ∃ (f c fl : Int) (i : Nat), 0 < i ∧ i ≤ w.length ∧ -1 ≤ c ∧ F38.go k (arr w) = some (((f, c, fl, (i : Int), ()), ()), (), ()) ∧
      ((i < w.length ∧ (w.getD i 0).toNat ≠ 44 ∧ ∃ r, F37.go k (arr w) = some (((0, 0, 0, r, false, ()), ()), (), ())) ∨
       ((i < w.length → (w.getD i 0).toNat = 44) ∧ F37.go k (arr w) = some (((f, c, fl, arr (w.drop i), true, ()), ()), (), ()))) := by
  unfold F37.go F38.go
  rcases digits_eq w h k k hk hk rfl with ⟨h1, v, h2⟩ | ⟨i, n, hi0, hi, h1, h2⟩
  · rw [h1, h2]
    exact .inl ⟨0, 0, 0, ⟨_, rfl⟩, rfl⟩
  rw [h1, h2]
  simp only [Option.bind_some]
  have hb0 : ((i : Int) == 0) = false := by rw [beq_eq_false_iff_ne]; omega
  rw [hb0]
  by_cases hn : n = 0
  · subst hn
    exact .inl ⟨0, 0, 0, ⟨_, rfl⟩, rfl⟩
  have hn1 : decide ((n : Int) < 1) = false := decide_eq_false (by omega)
  have hn2 : ((n : Int) == 0) = false := by rw [beq_eq_false_iff_ne]; omega
  rw [hn1, hn2, isE, arr_size, arr_size]
  simp only [cond_false]
  -- no dot
  have plain : ∀ (A : Option ((((Int × Int × Int × ByteArray × Bool × Unit) × Unit) × Unit × Unit))) (B : Option ((((Int × Int × Int × Int × Unit) × Unit) × Unit × Unit))),
      A = Option.bind (F37.go63 k (arr (w.drop i)) 0 (-1) (n : Int)) (fun y => some (((y.1.1, y.1.2.1, y.1.2.2.1, y.1.2.2.2.1, y.1.2.2.2.2.1, ()), ()), (), ())) →
      B = Option.bind (F38.go63 k (i : Int) (-1) (n : Int) (arr w)) (fun y => some (((y.1.1, y.1.2.1, y.1.2.2.1, y.1.2.2.2.1, ()), ()), (), ())) →
      (∃ a b c : Int, (∃ r, A = some (((0, 0, 0, r, false, ()), ()), (), ())) ∧ B = some (((a, b, c, 0, ()), ()), (), ())) ∨
      ∃ (f c fl : Int) (i : Nat), 0 < i ∧ i ≤ w.length ∧ -1 ≤ c ∧ B = some (((f, c, fl, (i : Int), ()), ()), (), ()) ∧
      ((i < w.length ∧ (w.getD i 0).toNat ≠ 44 ∧ ∃ r, A = some (((0, 0, 0, r, false, ()), ()), (), ())) ∨
       ((i < w.length → (w.getD i 0).toNat = 44) ∧ A = some (((f, c, fl, arr (w.drop i), true, ()), ()), (), ()))) := by
    intro A B hA hB
    obtain ⟨i', fl', g1, g2, g3, g4⟩ := tail_eq w h k i hi hk (-1) (n : Int)
    refine .inr ⟨(n : Int), -1, fl', i', by omega, g2, by omega, by rw [hB, g3]; rfl, ?_⟩
    rcases g4 with ⟨q1, q2, q3⟩ | ⟨q1, q3⟩
    · exact .inl ⟨q1, q2, _, by rw [hA, q3]; rfl⟩
    · exact .inr ⟨q1, by rw [hA, q3]; rfl⟩
  by_cases hil : i < w.length
  · have hd : w.drop i = w.getD i 0 :: w.drop (i + 1) := by
      rw [List.drop_eq_getElem_cons hil, List.getD_eq_getElem?_getD, List.getElem?_eq_getElem hil]; rfl
    have hne : (w.drop i).isEmpty = false := by rw [hd]; rfl
    have hpos : 0 < (w.drop i).length := by rw [List.length_drop]; omega
    have hg : Array.getD (arr (w.drop i)).data 0 (OfNat.ofNat 0) = w.getD i 0 := by rw [hd]; rfl
    have p0 : decide ((0 : Int) < (((w.drop i).length : Nat) : Int)) = true := decide_eq_true (by omega)
    have p1 : decide ((1 : Int) ≤ (((w.drop i).length : Nat) : Int)) = true := decide_eq_true (by omega)
    rw [hne, p0, p1, hg, ltD hil, dec0, Int.toNat_natCast, arr_get]
    simp only [cond_true, Bool.and_true, Bool.true_and, Bool.not_false]
    cases hdot : ((w.getD i 0).toNat : Int) == 46
    · simp only [cond_false]
      exact plain _ _ rfl rfl
    · simp only [cond_true]
      rw [extE (w.drop i) 1 _ rfl, List.drop_drop, wadd1 i (by omega), dec0, leD (by omega : i + 1 ≤ w.length), Int.toNat_natCast, extE w (i + 1) _ rfl]
      simp only [cond_true, Bool.and_true, Bool.true_and]
      rcases digits_eq (w.drop (i + 1)) (by rw [List.length_drop]; omega) k k (by rw [List.length_drop]; omega) (by rw [List.length_drop]; omega) rfl with ⟨d1, v, d2⟩ | ⟨j, m, hj0, hj, d1, d2⟩
      · rw [d1, d2]
        exact .inl ⟨0, 0, 0, ⟨_, rfl⟩, rfl⟩
      · rw [d1, d2]
        rw [List.length_drop] at hj
        simp only [Option.bind_some]
        have c1 : decide ((m : Int) < 0) = false := decide_eq_false (by omega)
        have c2 : ((j : Int) == 0) = false := by rw [beq_eq_false_iff_ne]; omega
        have c3 : IntKind.i64.wrap ((i : Int) + IntKind.i64.wrap (1 + (j : Int))) = ((i + 1 + j : Nat) : Int) := by
          have hb : w.length ≤ 140737488351232 := h
          rw [wrap_id (n := 1 + (j : Int)) (by omega) (by omega), wrap_id (by omega) (by omega)]; omega
        rw [c1, c2, c3, List.drop_drop]
        simp only [cond_false]
        obtain ⟨i', fl', g1, g2, g3, g4⟩ := tail_eq w h k (i + 1 + j) (by omega) hk (m : Int) (n : Int)
        refine .inr ⟨(n : Int), (m : Int), fl', i', by omega, g2, by omega, by rw [g3]; rfl, ?_⟩
        rcases g4 with ⟨q1, q2, q3⟩ | ⟨q1, q3⟩
        · exact .inl ⟨q1, q2, _, by rw [q3]; rfl⟩
        · exact .inr ⟨q1, by rw [q3]; rfl⟩
  · have he : w.drop i = [] := by rw [List.drop_eq_nil_iff]; omega
    have hne : (w.drop i).isEmpty = true := by rw [he]; rfl
    rw [hne, ltN hil]
    simp only [Bool.not_true, cond_false]
    exact plain _ _ rfl rfl
end Go.Proofs.Tryd.S

namespace Go.Proofs.Tryd.S
open Go Go.Ev
theorem parse_eq (w : List UInt8) (h : w.length ≤ big) (k : Nat) (hk : w.length < k) : ∃ (a b c d e z : Int), F13.go k (arr w) = some ((((a, b, c, d, e, ()), z, ()), ()), (), ()) ∧ F14.go k (arr w) = some ((((a, b, c, d, e, ()), z, ()), ()), (), ()) := by
  unfold F13.go F14.go
  rcases half_eq w h k hk with ⟨a, b, c, ⟨r, h1⟩, h2⟩ | ⟨f, c, fl, i, hi0, hi, hc1, h2, h3⟩
  · rw [h1, h2]
    exact ⟨0, 0, 0, 0, 0, 22, rfl, rfl⟩
  rw [h2]
  simp only [Option.bind_some]
  have hb0 : ((i : Int) == 0) = false := by rw [beq_eq_false_iff_ne]; omega
  rw [hb0]
  simp only [cond_false]
  by_cases c0 : c = 0
  · -- no byte 0
    subst c0
    rcases h3 with ⟨_, _, r, h1⟩ | ⟨_, h1⟩ <;> rw [h1] <;> exact ⟨0, 0, 0, 0, 0, 22, rfl, rfl⟩
  have hcb : (c == 0) = false := by rw [beq_eq_false_iff_ne]; exact c0
  rw [hcb]
  simp only [cond_false]
  rcases h3 with ⟨q1, q2, r, h1⟩ | ⟨q1, h1⟩
  · -- a byte that is no letter
    rw [h1]
    refine ⟨0, 0, 0, 0, 0, 22, rfl, ?_⟩
    have hne : ((i : Int) == ((arr w).size : Int)) = false := by rw [beq_eq_false_iff_ne, arr_size]; omega
    have g0 : (((w.getD i 0).toNat : Int) != 44) = true := by rw [bne_iff_ne]; omega
    have go127 : ∀ c2 : Int, F14.go127 k fl (arr w) (i : Int) 0 0 0 0 0 f c2 0 0 fl = some (((), 22, ()), ((0, 0, 0, 0, 0, ()), ()), ()) := by
      intro c2
      unfold F14.go127
      rw [arr_size, dec0, ltD q1, Int.toNat_natCast, arr_get, g0]; rfl
    rw [hne, go127, go127]
    cases decide (c < 0) <;> rfl
  · rw [h1]
    simp only [Option.bind_some, Bool.not_true, cond_false]
    rw [hcb, tl_nil, arr_size, arr_size]
    simp only [cond_false]
    by_cases hil : i < w.length
    · -- a second part
      have hd : w.drop i = w.getD i 0 :: w.drop (i + 1) := by
        rw [List.drop_eq_getElem_cons hil, List.getD_eq_getElem?_getD, List.getElem?_eq_getElem hil]; rfl
      have hne : (w.drop i).isEmpty = false := by rw [hd]; rfl
      have p1 : decide ((1 : Int) ≤ (((w.drop i).length : Nat) : Int)) = true := decide_eq_true (by rw [List.length_drop]; omega)
      have hnl : ((i : Int) == (w.length : Int)) = false := by rw [beq_eq_false_iff_ne]; omega
      have g0 : (((w.getD i 0).toNat : Int) != 44) = false := by have := q1 hil; rw [bne_eq_false_iff_eq]; omega
      rw [hne, p1, hnl, extE (w.drop i) 1 _ rfl, List.drop_drop]
      simp only [cond_true, cond_false]
      have hl2 : (w.drop (i + 1)).length = w.length - (i + 1) := List.length_drop
      have key : ∀ c2 : Int, F14.go127 k fl (arr w) (i : Int) 0 0 0 0 0 f c2 0 0 fl =
          Option.bind (F38.go k (arr (w.drop (i + 1)))) (fun y14 => bif y14.1.1.2.2.2.1 == 0 then some (((), 22, ()), ((0, 0, 0, 0, 0, ()), ()), ()) else bif IntKind.i64.wrap (((i + 1 : Nat) : Int) + y14.1.1.2.2.2.1) != (w.length : Int) then some (((), 22, ()), ((0, 0, 0, 0, 0, ()), ()), ()) else
            bif decide (y14.1.1.2.1 < 0) then some (((), 0, ()), ((f, c2, y14.1.1.1, 0, orI fl y14.1.1.2.2.1, ()), ()), ()) else some (((), 0, ()), ((f, c2, y14.1.1.1, y14.1.1.2.1, orI fl y14.1.1.2.2.1, ()), ()), ())) := by
        intro c2
        unfold F14.go127
        rw [arr_size, dec0, ltD hil, Int.toNat_natCast, arr_get, g0, wadd1 i (by omega), dec0, leD (by omega : i + 1 ≤ w.length), Int.toNat_natCast, extE w (i + 1) _ rfl]; rfl
      rw [key, key]
      rcases half_eq (w.drop (i + 1)) (by omega) k (by omega) with ⟨a, b, d, ⟨r, e1⟩, e2⟩ | ⟨f2, c2, fl2, j, hj0, hj, hc2, e2, e3⟩
      · rw [e1, e2]
        refine ⟨0, 0, 0, 0, 0, 22, rfl, ?_⟩
        cases decide (c < 0) <;> rfl
      · rw [e2]
        simp only [Option.bind_some]
        have hjb : ((j : Int) == 0) = false := by rw [beq_eq_false_iff_ne]; omega
        have hw : IntKind.i64.wrap (((i + 1 : Nat) : Int) + (j : Int)) = ((i + 1 + j : Nat) : Int) := by
          have hb : w.length ≤ 140737488351232 := h
          rw [wrap_id (by omega) (by omega)]; omega
        rw [hjb, hw]
        simp only [cond_false]
        by_cases hend : i + 1 + j = w.length
        · have hjl : ¬ j < (w.drop (i + 1)).length := by omega
          have hne2 : (((i + 1 + j : Nat) : Int) != (w.length : Int)) = false := by simp; omega
          rw [hne2]
          rcases e3 with ⟨q3, _⟩ | ⟨q3, e1⟩
          · exact absurd q3 hjl
          · rw [e1]
            have hnil : (w.drop (i + 1)).drop j = [] := by rw [List.drop_eq_nil_iff]; omega
            simp only [Option.bind_some, Bool.not_true, cond_false]
            rw [hnil, tl_nil]
            simp only [List.isEmpty_nil, Bool.not_true, cond_false]
            have m1 : (bif decide (c < 1) then 1 else c) = (bif decide (c < 0) then 1 else c) := by
              by_cases hc : c < 0
              · rw [decide_eq_true hc, decide_eq_true (by omega : c < 1)]
              · rw [decide_eq_false hc, decide_eq_false (by omega : ¬ c < 1)]
            refine ⟨f, bif decide (c < 0) then 1 else c, f2, bif decide (c2 < 0) then 0 else c2, orI fl fl2, 0, by rw [m1]; rfl, ?_⟩
            cases decide (c < 0) <;> cases decide (c2 < 0) <;> rfl
        · have hne2 : (((i + 1 + j : Nat) : Int) != (w.length : Int)) = true := by simp; omega
          rw [hne2]
          simp only [cond_true]
          have hr2 : ∀ c3 : Int, (bif decide (c < 0) then Option.bind (some (((), (22 : Int), ()), (((0 : Int), (0 : Int), (0 : Int), (0 : Int), (0 : Int), ()), ()), ())) (fun (y3 : (Unit × Int × Unit) × ((Int × Int × Int × Int × Int × Unit) × Unit) × Unit) => some ((((y3.2.1.1.1, y3.2.1.1.2.1, y3.2.1.1.2.2.1, y3.2.1.1.2.2.2.1, y3.2.1.1.2.2.2.2.1, ()), y3.1.2.1, ()), ()), (), ())) else
              Option.bind (some (((), (22 : Int), ()), (((0 : Int), (0 : Int), (0 : Int), (0 : Int), (0 : Int), ()), ()), ())) (fun (y3 : (Unit × Int × Unit) × ((Int × Int × Int × Int × Int × Unit) × Unit) × Unit) => some ((((y3.2.1.1.1, y3.2.1.1.2.1, y3.2.1.1.2.2.1, y3.2.1.1.2.2.2.1, y3.2.1.1.2.2.2.2.1, ()), y3.1.2.1, ()), ()), (), ()))) = some ((((0, 0, 0, 0, 0, ()), 22, ()), ()), (), ()) := by
            intro c3; cases decide (c < 0) <;> rfl
          rcases e3 with ⟨q3, q4, r, e1⟩ | ⟨q3, e1⟩
          · rw [e1]
            exact ⟨0, 0, 0, 0, 0, 22, rfl, hr2 0⟩
          · rw [e1]
            simp only [Option.bind_some, Bool.not_true, cond_false]
            have hd2 : ((w.drop (i + 1)).drop j).isEmpty = false := by
              rw [List.isEmpty_eq_false_iff]
              intro hh
              rw [List.drop_eq_nil_iff] at hh; omega
            rw [tl_nil, hd2]
            exact ⟨0, 0, 0, 0, 0, 22, rfl, hr2 0⟩
    · -- the whole text
      have he : w.drop i = [] := by rw [List.drop_eq_nil_iff]; omega
      have hil2 : i = w.length := by omega
      have hnl : ((i : Int) == (w.length : Int)) = true := by rw [beq_iff_eq]; omega
      rw [he, hnl]
      simp only [List.isEmpty_nil, cond_true]
      have m1 : (bif decide (c < 1) then 1 else c) = (bif decide (c < 0) then 1 else c) := by
        by_cases hc : c < 0
        · rw [decide_eq_true hc, decide_eq_true (by omega : c < 1)]
        · rw [decide_eq_false hc, decide_eq_false (by omega : ¬ c < 1)]
      refine ⟨f, bif decide (c < 0) then 1 else c, 0, 0, fl, 0, by rw [m1], ?_⟩
      cases decide (c < 0) <;> rfl
/-- any text is a key just if the document says so -/
theorem orderKeys (k : Nat) (a : List UInt8) (h : a.length ≤ big) (hk : a.length < k) : F4.go k ⟨⟨a⟩⟩ = some (F4.r true) := by
  show F4.go k (arr a) = _
  obtain ⟨x1, x2, x3, x4, x5, z, h1, h2⟩ := parse_eq a h k hk
  unfold F4.go
  rw [h1, h2]
  simp only [Option.bind_some, beq_self_eq_true, Bool.and_self, cond_true]
  show Option.bind (some ((z, ()), (), ())) _ = _
  simp only [Option.bind_some, beq_self_eq_true, cond_true]
end Go.Proofs.Tryd.S

