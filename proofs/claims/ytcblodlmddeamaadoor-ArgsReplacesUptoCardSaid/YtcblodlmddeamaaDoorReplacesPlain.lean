/- The plain law: what the functions that the law compares make is the same, over lists and numbers alone. -/
import Derived.Test.YtcblodlmddeamaaDoorReplacesWalk
import Derived.Test.YtcblodlmddeamaaDoorEv4
set_option linter.unusedVariables false
set_option linter.unusedSimpArgs false
set_option linter.unusedSectionVars false
set_option maxRecDepth 100000
namespace Go.Proofs.Tryd.S
open Go Go.Ev
theorem loopN_inr {A B : Type} {f : A → Option (A ⊕ B)} {k : Nat} {x : A} {y : B} (h : f x = some (.inr y)) : loopN f (k + 1) x = some y := by
  unfold loopN; rw [h]
theorem loopN_inl {A B : Type} {f : A → Option (A ⊕ B)} {k : Nat} {x x' : A} (h : f x = some (.inl x')) : loopN f (k + 1) x = loopN f k x' := by
  rw [loopN, h]
/-- a loop that goes through its states one by one -/
theorem loopN_iter {A B : Type} {f : A → Option (A ⊕ B)} (st : Nat → A) (n : Nat) (y : B) (h : ∀ i, i < n → f (st i) = some (.inl (st (i + 1)))) (hy : f (st n) = some (.inr y)) : ∀ k, n < k → loopN f k (st 0) = some y := by
  have key : ∀ m i k, i + m = n → m < k → loopN f k (st i) = some y := by
    intro m
    induction m with
    | zero =>
      intro i k hi hk
      obtain ⟨k, rfl⟩ : ∃ k', k = k' + 1 := ⟨k - 1, by omega⟩
      have : i = n := by omega
      subst this
      exact loopN_inr hy
    | succ m ih =>
      intro i k hi hk
      obtain ⟨k, rfl⟩ : ∃ k', k = k' + 1 := ⟨k - 1, by omega⟩
      rw [loopN_inl (h i (by omega))]
      exact ih (i + 1) k (by omega) (by omega)
  intro k hk
  exact key n 0 k (by omega) hk
theorem getD_in {α : Type} {l : List α} {i : Nat} {d : α} (h : i < l.length) : l.getD i d = l[i] := by
  simp [List.getD_eq_getElem?_getD, List.getElem?_eq_getElem h]
theorem take_succ {α : Type} {l : List α} {i : Nat} (h : i < l.length) : l.take (i + 1) = l.take i ++ [l[i]] := by
  rw [List.take_add_one, List.getElem?_eq_getElem h]; rfl
abbrev big : Nat := 140737488351232
theorem bleB {n : Nat} (h : n ≤ big) : (Nat.ble (n * 1) 140737488355328 && Nat.ble n 9223372036854775807) = true := by
  have h : n ≤ 140737488351232 := h
  rw [Nat.ble_eq_true_of_le (by omega), Nat.ble_eq_true_of_le (by omega)]; rfl
theorem lt_dec {i n : Nat} (h : i < n) : decide ((i : Int) < (n : Int)) = true := by simp; omega
theorem lt_dec' {n : Nat} : decide ((n : Int) < (n : Int)) = false := by simp
theorem in_dec {i n : Nat} (h : i < n) : (decide ((0 : Int) ≤ (i : Int)) && decide ((i : Int) < (n : Int))) = true := by simp; omega
theorem dec0 (p : Nat) : decide ((0 : Int) ≤ (p : Int)) = true := decide_eq_true (by omega)
theorem loopN_inv {A B : Type} {f : A → Option (A ⊕ B)} (P : Nat → A → Prop) (Q : B → Prop) (n : Nat) (h : ∀ i x, i < n → P i x → ∃ x', f x = some (.inl x') ∧ P (i + 1) x') (hy : ∀ x, P n x → ∃ y, f x = some (.inr y) ∧ Q y) : ∀ k, n < k → ∀ x, P 0 x → ∃ y, loopN f k x = some y ∧ Q y := by
  have key : ∀ m i k x, i + m = n → m < k → P i x → ∃ y, loopN f k x = some y ∧ Q y := by
    intro m
    induction m with
    | zero =>
      intro i k x hi hk hp
      obtain ⟨k, rfl⟩ : ∃ k', k = k' + 1 := ⟨k - 1, by omega⟩
      have : i = n := by omega
      subst this
      obtain ⟨y, h1, h2⟩ := hy x hp
      exact ⟨y, loopN_inr h1, h2⟩
    | succ m ih =>
      intro i k x hi hk hp
      obtain ⟨k, rfl⟩ : ∃ k', k = k' + 1 := ⟨k - 1, by omega⟩
      obtain ⟨x', h1, h2⟩ := h i x (by omega) hp
      rw [loopN_inl h1]
      exact ih (i + 1) k x' (by omega) (by omega) h2
  intro k hk x hx
  exact key n 0 k x (by omega) hk hx
theorem index_fit (sub : List UInt8) : ∀ s : List UInt8, 0 ≤ Lib.index s sub → (Lib.index s sub).toNat + sub.length ≤ s.length
  | [], h => by
    cases sub with
    | nil => decide
    | cons a r => exact absurd h (by show ¬ (0 : Int) ≤ -1; decide)
  | c :: s, h => by
    have ih := index_fit sub s
    unfold Lib.index at h ⊢
    by_cases h1 : sub.isPrefixOf (c :: s) = true
    · rw [if_pos h1] at h ⊢
      have := (List.isPrefixOf_iff_prefix.1 h1).length_le
      simpa using this
    · rw [if_neg h1] at h ⊢
      have hg := Lib.index_ge s sub
      by_cases h2 : (Lib.index s sub == -1) = true
      · rw [if_pos h2] at h; exact absurd h (by decide)
      · rw [if_neg h2] at h ⊢
        have h3 : Lib.index s sub ≠ -1 := by simpa using h2
        have := ih (by omega)
        rw [List.length_cons]; omega
theorem wz (n : Nat) (h : n ≤ big) : IntKind.i64.wrap (n : Int) = (n : Int) := by
  have h' : n ≤ 140737488351232 := h
  rw [wrap_id (by omega) (by omega)]
theorem wadd (a b : Nat) (h : a + b ≤ big) : IntKind.i64.wrap ((a : Int) + (b : Int)) = ((a + b : Nat) : Int) := by
  have h' : a + b ≤ 140737488351232 := h
  rw [wrap_id (by omega) (by omega)]; omega
abbrev mk (l : List UInt8) : ByteArray := ⟨⟨l⟩⟩
theorem mk_size (l : List UInt8) : (mk l).size = l.length := rfl
theorem ext_mk (l : List UInt8) (n m : Nat) (h : m = l.length) : (mk l).extract n m = mk (l.drop n) := by
  subst h
  have h1 : ((mk l).extract n l.length).data.toList = l.drop n := by
    rw [Lib.extract_data]
    show (l.drop n).take (l.length - n) = l.drop n
    rw [List.take_of_length_le (by rw [List.length_drop]; omega)]
  rw [← h1]
theorem mk_nil (l : List UInt8) : ((mk l).toList == (mk []).toList) = l.isEmpty := by
  rw [Lib.toList_data, Lib.toList_data]
  cases l <;> rfl
abbrev st (p : List UInt8) (i : Nat) (b : List UInt8) (f : Int) (s : List UInt8) : (ByteArray × Int × ByteArray × Int × ByteArray × Int × Unit) × Unit × Unit := ((mk p, (i : Int), mk b, f, mk s, 0, ()), (), ())
end Go.Proofs.Tryd.S

namespace Go.Proofs.Tryd.S
open Go Go.Ev
/-! ### a token put out for a line -/
def putF (tok line : List UInt8) : Nat → List UInt8 → List UInt8
  | 0, _ => []
  | n + 1, [] => []
  | n + 1, c :: r => bif tok.isPrefixOf (c :: r) then line ++ putF tok line n ((c :: r).drop tok.length) else c :: putF tok line n r
theorem putF_fuel {tok line : List UInt8} (ht : tok ≠ []) : ∀ (n m : Nat) (s : List UInt8), s.length ≤ n → s.length ≤ m → putF tok line n s = putF tok line m s
  | 0, 0, s, _, _ => rfl
  | 0, m + 1, s, h, _ => by
    have : s = [] := List.length_eq_zero_iff.1 (by omega)
    subst this; rfl
  | n + 1, 0, s, _, h => by
    have : s = [] := List.length_eq_zero_iff.1 (by omega)
    subst this; rfl
  | n + 1, m + 1, [], _, _ => rfl
  | n + 1, m + 1, c :: r, h1, h2 => by
    have hl : 0 < tok.length := List.length_pos_iff.2 ht
    rw [List.length_cons] at h1 h2
    rw [putF, putF, putF_fuel ht n m r (by omega) (by omega), putF_fuel ht n m ((c :: r).drop tok.length) (by rw [List.length_drop, List.length_cons]; omega) (by rw [List.length_drop, List.length_cons]; omega)]
def put (tok line s : List UInt8) : List UInt8 := putF tok line s.length s
theorem put_nil (tok line : List UInt8) : put tok line [] = [] := rfl
theorem put_cons {tok line : List UInt8} (ht : tok ≠ []) (c : UInt8) (r : List UInt8) : put tok line (c :: r) = bif tok.isPrefixOf (c :: r) then line ++ put tok line ((c :: r).drop tok.length) else c :: put tok line r := by
  have hl : 0 < tok.length := List.length_pos_iff.2 ht
  show putF tok line (r.length + 1) (c :: r) = _
  rw [putF]
  unfold put
  rw [putF_fuel ht r.length ((c :: r).drop tok.length).length _ (by rw [List.length_drop, List.length_cons]; omega) (Nat.le_refl _)]
theorem idx_cons (tok : List UInt8) (c : UInt8) (r : List UInt8) : Lib.index (c :: r) tok = if tok.isPrefixOf (c :: r) then 0 else if Lib.index r tok == -1 then -1 else Lib.index r tok + 1 := rfl
theorem put_none {tok line : List UInt8} (ht : tok ≠ []) : ∀ s : List UInt8, Lib.index s tok = -1 → put tok line s = s
  | [], _ => rfl
  | c :: r, h => by
    rw [idx_cons] at h
    rw [put_cons ht]
    by_cases hp : tok.isPrefixOf (c :: r) = true
    · rw [if_pos hp] at h; exact absurd h (by decide)
    · rw [if_neg hp] at h
      have hp' : tok.isPrefixOf (c :: r) = false := Bool.eq_false_iff.2 hp
      rw [hp', cond_false]
      by_cases h2 : (Lib.index r tok == -1) = true
      · rw [put_none ht r (by simpa using h2)]
      · rw [if_neg h2] at h
        have hg := Lib.index_ge r tok
        omega
theorem put_some {tok line : List UInt8} (ht : tok ≠ []) : ∀ s : List UInt8, 0 ≤ Lib.index s tok → put tok line s = s.take (Lib.index s tok).toNat ++ (line ++ put tok line (s.drop ((Lib.index s tok).toNat + tok.length)))
  | [], h => by
    cases tok with
    | nil => exact absurd rfl ht
    | cons a r => exact absurd h (by show ¬ (0 : Int) ≤ -1; decide)
  | c :: r, h => by
    rw [put_cons ht]
    rw [idx_cons] at h ⊢
    by_cases hp : tok.isPrefixOf (c :: r) = true
    · rw [if_pos hp, hp, cond_true]
      simp
    · have hp' : tok.isPrefixOf (c :: r) = false := Bool.eq_false_iff.2 hp
      rw [if_neg hp] at h ⊢
      rw [hp', cond_false]
      by_cases h2 : (Lib.index r tok == -1) = true
      · rw [if_pos h2] at h; exact absurd h (by decide)
      · rw [if_neg h2] at h ⊢
        have hg := Lib.index_ge r tok
        have h3 : Lib.index r tok ≠ -1 := by simpa using h2
        rw [put_some ht r (by omega)]
        have e : (Lib.index r tok + 1).toNat = (Lib.index r tok).toNat + 1 := by omega
        have e2 : (Lib.index r tok).toNat + 1 + tok.length = ((Lib.index r tok).toNat + tok.length) + 1 := by omega
        rw [e, e2, List.take_succ_cons, List.drop_succ_cons]
        rfl
theorem put_self {tok : List UInt8} (ht : tok ≠ []) : ∀ (n : Nat) (s : List UInt8), s.length ≤ n → put tok tok s = s
  | 0, s, h => by
    have : s = [] := List.length_eq_zero_iff.1 (by omega)
    subst this; rfl
  | n + 1, [], _ => rfl
  | n + 1, c :: r, h => by
    have hl : 0 < tok.length := List.length_pos_iff.2 ht
    rw [List.length_cons] at h
    rw [put_cons ht]
    cases hp : tok.isPrefixOf (c :: r)
    · rw [cond_false, put_self ht n r (by omega)]
    · rw [cond_true, put_self ht n _ (by rw [List.length_drop, List.length_cons]; omega)]
      obtain ⟨t, e⟩ := List.isPrefixOf_iff_prefix.1 hp
      rw [← e, List.drop_left]
theorem cnt_zero {tok : List UInt8} {n : Nat} {s : List UInt8} (h : Lib.countFrom tok (n + 1) s = 0) : Lib.index s tok = -1 := by
  unfold Lib.countFrom at h
  by_cases h2 : (Lib.index s tok == -1) = true
  · simpa using h2
  · rw [if_neg h2] at h; omega
theorem cnt_succ {tok : List UInt8} {n m : Nat} {s : List UInt8} (h : Lib.countFrom tok (n + 1) s = m + 1) : 0 ≤ Lib.index s tok ∧ Lib.countFrom tok n (s.drop ((Lib.index s tok).toNat + tok.length)) = m := by
  unfold Lib.countFrom at h
  by_cases h2 : (Lib.index s tok == -1) = true
  · rw [if_pos h2] at h; omega
  · rw [if_neg h2] at h
    have hg := Lib.index_ge s tok
    have h3 : Lib.index s tok ≠ -1 := by simpa using h2
    exact ⟨by omega, by omega⟩
theorem cnt_mul (tok : List UInt8) : ∀ (n : Nat) (s : List UInt8), Lib.countFrom tok n s * tok.length ≤ s.length
  | 0, s => by show 0 * _ ≤ _; omega
  | n + 1, s => by
    cases hm : Lib.countFrom tok (n + 1) s with
    | zero => omega
    | succ m =>
      obtain ⟨h1, h2⟩ := cnt_succ hm
      have ih := cnt_mul tok n (s.drop ((Lib.index s tok).toNat + tok.length))
      have hf := index_fit tok s h1
      rw [h2, List.length_drop] at ih
      rw [Nat.succ_mul]; omega
/-! ### strings.Replace -/
def ints (l : List UInt8) : List Int := l.map fun b => ((b.toNat : Nat) : Int)
theorem ints_append (a b : List UInt8) : ints (a ++ b) = ints a ++ ints b := List.map_append
theorem ints_len (a : List UInt8) : (ints a).length = a.length := List.length_map ..
theorem str_ints (l : List UInt8) : strOf (ints l) = mk l := by
  unfold strOf ints
  rw [List.map_map]
  have : ((fun n : Int => UInt8.ofNat n.toNat) ∘ fun b : UInt8 => ((b.toNat : Nat) : Int)) = id := by
    funext b; simp
  rw [this, List.map_id]
theorem bytes_mk (l : List UInt8) : bytesOf (mk l) = ints l := rfl
theorem ext_sub (l : List UInt8) (a b : Nat) : (mk l).extract a b = mk ((l.drop a).take (b - a)) := by
  have h1 : ((mk l).extract a b).data.toList = (l.drop a).take (b - a) := Lib.extract_data _ _ _
  rw [← h1]
theorem F56_eq (k : Nat) (l : List UInt8) (acc : List Int) (h : acc.length + l.length ≤ big) : F56.go k (mk l) acc = some ((((l.length : Int), (), ()), ()), (((), (), ()), acc ++ ints l, ()), ()) := by
  unfold F56.go
  rw [bytes_mk, bleB (show (acc ++ ints l).length ≤ big by rw [List.length_append, ints_len]; exact h)]
  rfl
theorem F48_loop (k : Nat) (tok line s : List UInt8) (ht : tok ≠ []) (c : Nat) (hs : s.length ≤ 2000) (hl : line.length ≤ 2000) (hc : c ≤ 2000) :
    ∀ (m j p : Nat) (acc : List Int) (fu n : Nat), j + m = c → p ≤ s.length → acc.length ≤ p + j * 2000 → m < fu → s.length - p < n → Lib.countFrom tok n (s.drop p) = m →
      ∃ (p' : Nat) (acc' : List Int), loopN (F48.s4074 k) fu (((j : Int), mk tok, (), mk line, (p : Int), mk s, (c : Int), ()), (((), (), ()), acc, ()), ()) = some (((), (p' : Int), mk s, ()), (((), (), ()), acc', ()), ()) ∧ p' ≤ s.length ∧ acc'.length ≤ p' + c * 2000 ∧ acc' ++ ints (s.drop p') = acc ++ ints (put tok line (s.drop p)) := by
  have htl : 0 < tok.length := List.length_pos_iff.2 ht
  intro m
  induction m with
  | zero =>
    intro j p acc fu n hj hp ha hf hn hcnt
    obtain ⟨fu, rfl⟩ : ∃ f', fu = f' + 1 := ⟨fu - 1, by omega⟩
    obtain ⟨n, rfl⟩ : ∃ n', n = n' + 1 := ⟨n - 1, by omega⟩
    have hjc : j = c := by omega
    subst hjc
    refine ⟨p, acc, loopN_inr ?_, hp, ha, ?_⟩
    · simp only [F48.s4074, F48.go4074, lt_dec', cond_false]
    · rw [put_none ht _ (cnt_zero hcnt)]
  | succ m ih =>
    intro j p acc fu n hj hp ha hf hn hcnt
    obtain ⟨fu, rfl⟩ : ∃ f', fu = f' + 1 := ⟨fu - 1, by omega⟩
    obtain ⟨n, rfl⟩ : ∃ n', n = n' + 1 := ⟨n - 1, by omega⟩
    obtain ⟨h1, h2⟩ := cnt_succ hcnt
    obtain ⟨i, hi⟩ : ∃ i : Nat, Lib.index (s.drop p) tok = (i : Int) := ⟨_, (Int.toNat_of_nonneg h1).symm⟩
    have hfit := index_fit tok (s.drop p) h1
    rw [hi, Int.toNat_natCast, List.length_drop] at hfit
    have hjc : j < c := by omega
    have hpos : s.length - (p + i + tok.length) < n := by omega
    rw [hi, Int.toNat_natCast, List.drop_drop, ← Nat.add_assoc] at h2
    have ha2 : (acc ++ ints ((s.drop p).take i)).length = acc.length + i := by
      rw [List.length_append, ints_len, List.length_take, List.length_drop]; omega
    have hacc3 : ((acc ++ ints ((s.drop p).take i)) ++ ints line).length ≤ (p + i + tok.length) + (j + 1) * 2000 := by
      rw [List.length_append, ha2, ints_len, Nat.succ_mul]; omega
    obtain ⟨p', acc', g1, g2, g3, g4⟩ := ih (j + 1) (p + i + tok.length) ((acc ++ ints ((s.drop p).take i)) ++ ints line) fu n (by omega) (by omega) hacc3 (by omega) hpos h2
    refine ⟨p', acc', ?_, g2, g3, ?_⟩
    · rw [loopN_inl (x' := ((((j + 1 : Nat) : Int), mk tok, (), mk line, ((p + i + tok.length : Nat) : Int), mk s, (c : Int), ()), (((), (), ()), (acc ++ ints ((s.drop p).take i)) ++ ints line, ()), ()))]
      · exact g1
      · have d1 : decide ((p : Int) ≤ (s.length : Int)) = true := decide_eq_true (by omega)
        have d2 : decide ((((mk s).extract p s.length)).size < 4294967281) = true := by
          rw [ext_mk s p s.length rfl]; exact decide_eq_true (by rw [mk_size, List.length_drop]; omega)
        have w1 := wadd p i (by show _ ≤ 140737488351232; omega)
        have w2 := wadd (p + i) tok.length (by show _ ≤ 140737488351232; omega)
        have w3 := wadd j 1 (by show _ ≤ 140737488351232; omega)
        have e1 : ((1 : Nat) : Int) = 1 := rfl
        rw [e1] at w3
        have d3 : decide (((p + i : Nat) : Int) ≤ (s.length : Int)) = true := decide_eq_true (by omega)
        have d4 : decide ((p : Int) ≤ ((p + i : Nat) : Int)) = true := decide_eq_true (by omega)
        have hix : Lib.index (((mk s).extract p s.length).data.toList) (mk tok).data.toList = (i : Int) := by
          rw [ext_mk s p s.length rfl]; exact hi
        have f1 := F56_eq k ((s.drop p).take i) acc (by rw [List.length_take, List.length_drop]; show _ ≤ 140737488351232; have : j * 2000 ≤ 2000 * 2000 := Nat.mul_le_mul_right _ (by omega); omega)
        have f2 := F56_eq k line (acc ++ ints ((s.drop p).take i)) (by rw [ha2]; show _ ≤ 140737488351232; have : j * 2000 ≤ 2000 * 2000 := Nat.mul_le_mul_right _ (by omega); omega)
        have hsub : (mk s).extract p (p + i) = mk ((s.drop p).take i) := by rw [ext_sub, Nat.add_sub_cancel_left]
        simp only [F48.s4074, F48.go4074, mk_size, lt_dec hjc, dec0, d1, d2, hix, w1, w2, w3, d3, d4, Bool.true_and, Bool.and_true, cond_true, Int.toNat_natCast, hsub, f1, f2, Option.bind_some]
    · rw [g4, put_some ht (s.drop p) h1, hi, Int.toNat_natCast, List.drop_drop, ← Nat.add_assoc]
      simp only [ints_append, List.append_assoc]
theorem F54_eq (k : Nat) (x : Nat) (hx : x ≤ 281474976710656) : F54.go k (x : Int) = some (.inr (((), ()), (((), (), ()), [], ()), ())) := by
  have d0 : decide ((x : Int) < 0) = false := decide_eq_false (by omega)
  unfold F54.go
  rw [d0]
  by_cases h : 0 < x
  · have d1 : decide ((0 : Int) < (x : Int)) = true := decide_eq_true (by omega)
    have d2 : decide ((x : Int) ≤ 281474976710656) = true := decide_eq_true (by omega)
    rw [d1, d2]; rfl
  · have d1 : decide ((0 : Int) < (x : Int)) = false := decide_eq_false (by omega)
    rw [d1]; rfl
theorem F48_15 (k : Nat) (tok line s : List UInt8) (ht : tok ≠ []) (hs : s.length ≤ 2000) (hl : line.length ≤ 2000) (c n : Nat) (hk : 2001 < k) (hn : s.length < n) (hc : Lib.countFrom tok n s = c) :
    F48.go15 k (mk tok) (mk line) (mk s) (c : Int) = some (.inr ((mk (put tok line s), ()), (), ())) := by
  have htl : 0 < tok.length := List.length_pos_iff.2 ht
  have hmul := cnt_mul tok n s
  rw [hc] at hmul
  have hc1 : c ≤ c * tok.length := Nat.le_mul_of_pos_right _ htl
  have hq : c * line.length ≤ 2000 * 2000 := Nat.mul_le_mul (by omega) hl
  by_cases hc0 : c = 0
  · -- nothing to put
    subst hc0
    obtain ⟨n, rfl⟩ : ∃ n', n = n' + 1 := ⟨n - 1, by omega⟩
    have hix := cnt_zero hc
    have hw : IntKind.i64.wrap ((s.length : Int) + IntKind.i64.wrap (((0 : Nat) : Int) * IntKind.i64.wrap ((line.length : Int) - (tok.length : Int)))) = (s.length : Int) := by
      have e : (((0 : Nat) : Int) * IntKind.i64.wrap ((line.length : Int) - (tok.length : Int))) = 0 := by
        rw [show ((0 : Nat) : Int) = 0 from rfl, Int.zero_mul]
      have e3 : IntKind.i64.wrap 0 = 0 := rfl
      rw [e, e3, Int.add_zero]; exact wrap_id (by omega) (by omega)
    obtain ⟨p', acc', g1, g2, g3, g4⟩ := F48_loop k tok line s ht 0 hs hl (by omega) 0 0 0 [] k (n + 1) rfl (Nat.zero_le _) (by simp) (by omega) (by omega) (by rw [List.drop_zero]; exact hc)
    have d1 : decide ((tok.length : Int) > 0) = true := decide_eq_true (by omega)
    have d2 : decide ((p' : Int) ≤ (s.length : Int)) = true := decide_eq_true (by omega)
    have f1 := F56_eq k (s.drop p') acc' (by rw [List.length_drop]; show _ ≤ 140737488351232; omega)
    rw [g4] at f1
    rw [List.drop_zero, List.nil_append] at f1
    have hlen : (put tok line s).length ≤ 9223372036854775807 := by
      rw [put_none ht s hix]; omega
    have e0 : ((0 : Nat) : Int) = 0 := rfl
    rw [e0] at g1
    unfold F48.go15 F48.l_4074
    rw [e0] at hw ⊢
    simp only [mk_size, hw, F54_eq k s.length (by omega), Option.bind_some, Sum.elim_inr, d1, cond_true, g1, dec0, d2, Bool.true_and, Int.toNat_natCast, ext_mk s p' s.length rfl, f1, ints_len, Nat.ble_eq_true_of_le hlen, str_ints]
  · have htl2 : tok.length ≤ 2000 := by
      have : 1 * tok.length ≤ c * tok.length := Nat.mul_le_mul_right _ (by omega)
      omega
    have hw : IntKind.i64.wrap ((s.length : Int) + IntKind.i64.wrap ((c : Int) * IntKind.i64.wrap ((line.length : Int) - (tok.length : Int)))) = ((s.length + c * line.length - c * tok.length : Nat) : Int) := by
      have e1 : IntKind.i64.wrap ((line.length : Int) - (tok.length : Int)) = (line.length : Int) - (tok.length : Int) := wrap_id (by omega) (by omega)
      have e2 : (c : Int) * ((line.length : Int) - (tok.length : Int)) = ((c * line.length : Nat) : Int) - ((c * tok.length : Nat) : Int) := by
        rw [Int.mul_sub, Int.natCast_mul, Int.natCast_mul]
      have e3 : IntKind.i64.wrap (((c * line.length : Nat) : Int) - ((c * tok.length : Nat) : Int)) = ((c * line.length : Nat) : Int) - ((c * tok.length : Nat) : Int) := wrap_id (by omega) (by omega)
      have e4 : (s.length : Int) + (((c * line.length : Nat) : Int) - ((c * tok.length : Nat) : Int)) = ((s.length + c * line.length - c * tok.length : Nat) : Int) := by omega
      rw [e1, e2, e3, e4]; exact wrap_id (by omega) (by omega)
    obtain ⟨p', acc', g1, g2, g3, g4⟩ := F48_loop k tok line s ht c hs hl (by omega) c 0 0 [] k n (by omega) (Nat.zero_le _) (by simp) (by omega) (by omega) (by rw [List.drop_zero]; exact hc)
    have hc2 : c * 2000 ≤ 2000 * 2000 := Nat.mul_le_mul_right _ (by omega)
    have d1 : decide ((tok.length : Int) > 0) = true := decide_eq_true (by omega)
    have d2 : decide ((p' : Int) ≤ (s.length : Int)) = true := decide_eq_true (by omega)
    have hlen0 : (acc' ++ ints (s.drop p')).length ≤ 9223372036854775807 := by rw [List.length_append, ints_len, List.length_drop]; omega
    have f1 := F56_eq k (s.drop p') acc' (by rw [List.length_drop]; show _ ≤ 140737488351232; omega)
    rw [g4] at f1 hlen0
    rw [List.drop_zero, List.nil_append] at f1 hlen0
    have e0 : ((0 : Nat) : Int) = 0 := rfl
    rw [e0] at g1
    unfold F48.go15 F48.l_4074
    simp only [mk_size, hw, F54_eq k _ (show s.length + c * line.length - c * tok.length ≤ 281474976710656 by omega), Option.bind_some, Sum.elim_inr, d1, cond_true, g1, dec0, d2, Bool.true_and, Int.toNat_natCast, ext_mk s p' s.length rfl, f1, Nat.ble_eq_true_of_le hlen0, str_ints]
end Go.Proofs.Tryd.S

namespace Go.Proofs.Tryd.S
open Go Go.Ev
def putT (tok line s : List UInt8) : List UInt8 := bif tok.isEmpty then s else put tok line s
theorem mk_eq (a b : List UInt8) : ((mk a).toList == (mk b).toList) = (a == b) := by rw [Lib.toList_data, Lib.toList_data]
theorem F48_eq (k : Nat) (tok line s : List UInt8) (ht : tok ≠ []) (hs : s.length ≤ 2000) (hl : line.length ≤ 2000) (hk : 2001 < k) : F48.go k (mk s) (mk tok) (mk line) (-1) = some (.inl ((mk (put tok line s), ()), (), ())) := by
  have htl : 0 < tok.length := List.length_pos_iff.2 ht
  have d1 : decide (s.length < 4294967281) = true := decide_eq_true (by omega)
  have d2 : decide (1 ≤ tok.length) = true := decide_eq_true (by omega)
  unfold F48.go
  rw [mk_eq]
  cases he : tok == line
  · obtain ⟨c, hc⟩ : ∃ c, Lib.countFrom tok (s.length + 1) s = c := ⟨_, rfl⟩
    have hc' : Lib.countFrom (mk tok).data.toList ((mk s).data.toList.length + 1) (mk s).data.toList = c := hc
    have h15 := F48_15 k tok line s ht hs hl c (s.length + 1) hk (by omega) hc
    simp only [mk_size, d1, d2, Bool.true_and, cond_true, cond_false, hc']
    by_cases h0 : c = 0
    · subst h0
      have := cnt_zero hc
      rw [put_none ht s this]; rfl
    · have h1 : (((c : Nat) : Int) == 0) = false := by rw [beq_eq_false_iff_ne]; omega
      rw [h1]
      have h2 : ((-1 : Int) == 0) = false := rfl
      have h3 : decide ((-1 : Int) < 0) = true := rfl
      simp only [h2, h3, cond_false, cond_true, h15, Option.bind_some, Sum.elim_inr]
  · have e : tok = line := by simpa using he
    subst e
    rw [put_self ht s.length s (Nat.le_refl _)]; rfl
theorem F39_eq (k : Nat) (tok line s : List UInt8) (ht : tok ≠ []) (hs : s.length ≤ 2000) (hl : line.length ≤ 2000) (hk : 2001 < k) : F39.go k (mk s) (mk tok) (mk line) = some (.inl ((mk (put tok line s), ()), (), ())) := by
  unfold F39.go
  rw [F48_eq k tok line s ht hs hl hk]; rfl
/-! ### the reference's -/
theorem drop_at {s : List UInt8} {i : Nat} (h : i < s.length) : s.drop i = s[i] :: s.drop (i + 1) := List.drop_eq_getElem_cons h
theorem mk_get {l : List UInt8} {i : Nat} (h : i < l.length) : (mk l).data.getD i (OfNat.ofNat 0) = l[i] := by
  show (if h : i < l.length then l[i] else 0) = l[i]
  rw [dif_pos h]
theorem pre_take (tok t : List UInt8) (h : tok.length ≤ t.length) : (t.take tok.length == tok) = tok.isPrefixOf t := by
  cases hp : tok.isPrefixOf t
  · rw [beq_eq_false_iff_ne]
    intro e
    have : tok.isPrefixOf t = true := List.isPrefixOf_iff_prefix.2 (by rw [← e]; exact List.take_prefix ..)
    rw [hp] at this; exact absurd this (by decide)
  · obtain ⟨r, e⟩ := List.isPrefixOf_iff_prefix.1 hp
    rw [← e, List.take_left]; exact beq_self_eq_true _
theorem pre_long (tok t : List UInt8) (h : ¬ tok.length ≤ t.length) : tok.isPrefixOf t = false := by
  cases hp : tok.isPrefixOf t
  · rfl
  · exact absurd (List.isPrefixOf_iff_prefix.1 hp).length_le h
theorem F41_loop (k : Nat) (tok line s : List UInt8) (hs : s.length ≤ 2000) (hl : line.length ≤ 2000) (hT : tok.length ≤ 1048576) :
    ∀ (m i : Nat) (acc : List Int) (fu : Nat), s.length - i ≤ m → i ≤ s.length → acc.length ≤ i * 2001 → m < fu →
      loopN (F41.s58 k) fu ((mk tok, (i : Int), mk line, (), mk s, ()), (acc, ()), ()) = some (((), ()), (acc ++ ints (putT tok line (s.drop i)), ()), ()) := by
  intro m
  induction m with
  | zero =>
    intro i acc fu hm hi ha hf
    obtain ⟨fu, rfl⟩ : ∃ f', fu = f' + 1 := ⟨fu - 1, by omega⟩
    have hie : i = s.length := by omega
    subst hie
    refine loopN_inr ?_
    have e : putT tok line (s.drop s.length) = [] := by
      rw [List.drop_length]; unfold putT; cases tok.isEmpty <;> rfl
    simp only [F41.s58, F41.go58, mk_size, lt_dec', cond_false, e]
    simp [ints]
  | succ m ih =>
    intro i acc fu hm hi ha hf
    obtain ⟨fu, rfl⟩ : ∃ f', fu = f' + 1 := ⟨fu - 1, by omega⟩
    by_cases hie : i = s.length
    · subst hie
      refine loopN_inr ?_
      have e : putT tok line (s.drop s.length) = [] := by
        rw [List.drop_length]; unfold putT; cases tok.isEmpty <;> rfl
      simp only [F41.s58, F41.go58, mk_size, lt_dec', cond_false, e]
      simp [ints]
    · have hi' : i < s.length := by omega
      have w1 := wadd i 1 (by show _ ≤ 140737488351232; omega)
      have e1 : ((1 : Nat) : Int) = 1 := rfl
      rw [e1] at w1
      have hbl : i * 2001 ≤ 2000 * 2001 := Nat.mul_le_mul_right _ (by omega)
      have ble1 := bleB (show (acc ++ [((s[i].toNat : Nat) : Int)]).length ≤ big by rw [List.length_append, List.length_singleton]; show _ ≤ 140737488351232; omega)
      have ble2 := bleB (show (acc ++ ints line).length ≤ big by rw [List.length_append, ints_len]; show _ ≤ 140737488351232; omega)
      -- one byte
      have one : putT tok line (s.drop i) = s[i] :: putT tok line (s.drop (i + 1)) → loopN (F41.s58 k) fu ((mk tok, ((i + 1 : Nat) : Int), mk line, (), mk s, ()), (acc ++ [((s[i].toNat : Nat) : Int)], ()), ()) = some (((), ()), (acc ++ ints (putT tok line (s.drop i)), ()), ()) := by
        intro he
        rw [ih (i + 1) (acc ++ [((s[i].toNat : Nat) : Int)]) fu (by omega) (by omega) (by rw [List.length_append, List.length_singleton, Nat.succ_mul]; omega) (by omega), he]
        simp [ints]
      cases htok : tok.isEmpty
      · have ht : tok ≠ [] := fun e => by subst e; exact absurd htok (by decide)
        have hpt : ∀ t, putT tok line t = put tok line t := fun t => by unfold putT; rw [htok]; rfl
        have w2 : IntKind.i64.wrap ((s.length : Int) - (i : Int)) = ((s.length - i : Nat) : Int) := by rw [wrap_id (by omega) (by omega)]; omega
        have w3 := wadd i tok.length (by show _ ≤ 140737488351232; omega)
        have hsub : (mk s).extract i (i + tok.length) = mk ((s.drop i).take tok.length) := by rw [ext_sub, Nat.add_sub_cancel_left]
        have hld : (s.drop i).length = s.length - i := List.length_drop ..
        by_cases hlong : tok.length ≤ s.length - i
        · have d1 : decide (((s.length - i : Nat) : Int) ≥ (tok.length : Int)) = true := decide_eq_true (by omega)
          have d2 : decide (((i + tok.length : Nat) : Int) ≤ (s.length : Int)) = true := decide_eq_true (by omega)
          have d3 : decide ((i : Int) ≤ ((i + tok.length : Nat) : Int)) = true := decide_eq_true (by omega)
          have hpre := pre_take tok (s.drop i) (by omega)
          have hne : ((mk tok).toList == (mk []).toList) = false := by rw [mk_nil]; exact htok
          cases hp : tok.isPrefixOf (s.drop i)
          · rw [hp] at hpre
            rw [loopN_inl (x' := ((mk tok, ((i + 1 : Nat) : Int), mk line, (), mk s, ()), (acc ++ [((s[i].toNat : Nat) : Int)], ()), ()))]
            · refine one ?_
              rw [hpt, hpt, drop_at hi', put_cons ht, ← drop_at hi', hp]; rfl
            · simp only [F41.s58, F41.go58, mk_size, lt_dec hi', cond_true, w2, w3, d1, d2, d3, dec0, Bool.true_and, Bool.and_true, Int.toNat_natCast, hsub, mk_get hi', ble1, w1]
              show (bif !((mk tok).toList == (mk []).toList) then _ else _) = _
              rw [hne]
              simp only [Bool.not_false, cond_true]
              rw [mk_eq, hpre]; rfl
          · rw [hp] at hpre
            have htl : 0 < tok.length := List.length_pos_iff.2 ht
            have hac : (acc ++ ints line).length ≤ (i + tok.length) * 2001 := by
              rw [List.length_append, ints_len, Nat.add_mul]
              have : 1 * 2001 ≤ tok.length * 2001 := Nat.mul_le_mul_right _ htl
              omega
            rw [loopN_inl (x' := ((mk tok, ((i + tok.length : Nat) : Int), mk line, (), mk s, ()), (acc ++ ints line, ()), ()))]
            · rw [ih (i + tok.length) (acc ++ ints line) fu (by omega) (by omega) hac (by omega)]
              rw [hpt, hpt]
              have : put tok line (s.drop i) = line ++ put tok line (s.drop (i + tok.length)) := by
                rw [drop_at hi', put_cons ht, ← drop_at hi', hp, cond_true, List.drop_drop]
              rw [this, ints_append, List.append_assoc]
            · simp only [F41.s58, F41.go58, mk_size, lt_dec hi', cond_true, w2, w3, d1, d2, d3, dec0, Bool.true_and, Bool.and_true, Int.toNat_natCast, hsub, bytes_mk, ble2]
              show (bif !((mk tok).toList == (mk []).toList) then _ else _) = _
              rw [hne]
              simp only [Bool.not_false, cond_true]
              rw [mk_eq, hpre]; rfl
        · have d1 : decide (((s.length - i : Nat) : Int) ≥ (tok.length : Int)) = false := decide_eq_false (by omega)
          have hne : ((mk tok).toList == (mk []).toList) = false := by rw [mk_nil]; exact htok
          rw [loopN_inl (x' := ((mk tok, ((i + 1 : Nat) : Int), mk line, (), mk s, ()), (acc ++ [((s[i].toNat : Nat) : Int)], ()), ()))]
          · refine one ?_
            rw [hpt, hpt, drop_at hi', put_cons ht, ← drop_at hi', pre_long tok (s.drop i) (by omega)]; rfl
          · simp only [F41.s58, F41.go58, mk_size, lt_dec hi', cond_true, w2, d1, dec0, Bool.true_and, cond_false, Int.toNat_natCast, mk_get hi', ble1, w1]
            show (bif !((mk tok).toList == (mk []).toList) then _ else _) = _
            rw [hne]; rfl
      · have hne : ((mk tok).toList == (mk []).toList) = true := by rw [mk_nil]; exact htok
        have hpt : ∀ t, putT tok line t = t := fun t => by unfold putT; rw [htok]; rfl
        rw [loopN_inl (x' := ((mk tok, ((i + 1 : Nat) : Int), mk line, (), mk s, ()), (acc ++ [((s[i].toNat : Nat) : Int)], ()), ()))]
        · refine one ?_
          rw [hpt, hpt]; exact drop_at hi'
        · simp only [F41.s58, F41.go58, mk_size, lt_dec hi', cond_true, dec0, Bool.true_and, Int.toNat_natCast, mk_get hi', ble1, w1]
          show (bif !((mk tok).toList == (mk []).toList) then _ else _) = _
          rw [hne]; rfl
theorem F41_eq (k : Nat) (tok line s : List UInt8) (hs : s.length ≤ 2000) (hl : line.length ≤ 2000) (hT : tok.length ≤ 1048576) (hk : 2001 < k) : F41.go k (mk s) (mk tok) (mk line) = some ((mk (putT tok line s), ()), (), ()) := by
  have := F41_loop k tok line s hs hl hT s.length 0 [] k (by omega) (Nat.zero_le _) (by simp) (by omega)
  have e0 : ((0 : Nat) : Int) = 0 := rfl
  rw [e0] at this
  unfold F41.go F41.l_58
  rw [this, Option.bind_some, List.nil_append, List.drop_zero]
  simp only [str_ints]
/-! ### word by word -/
abbrev wd (l : List ByteArray) (i : Nat) : ByteArray := l.getD i { data := { toList := [] : Array UInt8 } : ByteArray }
def putB (tok line : List UInt8) (w : ByteArray) : ByteArray := mk (putT tok line w.data.toList)
theorem ble16 {n : Nat} (h : n ≤ 1048577) : (Nat.ble (n * 16) 140737488355328 && Nat.ble n 9223372036854775807) = true := by
  rw [Nat.ble_eq_true_of_le (by omega), Nat.ble_eq_true_of_le (by omega)]; rfl
theorem F24_eq (k : Nat) (l : List ByteArray) (tok line : List UInt8) (hl : l.length ≤ 1048576) (hw : ∀ w ∈ l, w.size ≤ 2000) (hline : line.length ≤ 2000) (hT : tok.length ≤ 1048576) (hk : 2001 < k) (hkl : l.length < k) :
    F24.go k l (mk tok) (mk line) = some (((), ()), (l.map (putB tok line), ()), ()) := by
  have loop := loopN_iter (f := F24.s58 k) (fun i => (((i : Int), mk line, mk tok, (), l, (l.length : Int), ()), ((l.take i).map (putB tok line), ()), ())) l.length (((), ()), (l.map (putB tok line), ()), ()) (fun i hi => ?_) ?_ k hkl
  · have e0 : ((0 : Nat) : Int) = 0 := rfl
    have e1 : (l.take 0).map (putB tok line) = [] := rfl
    simp only [e0, e1] at loop
    unfold F24.go F24.l_58
    rw [loop]; rfl
  · have w1 := wadd i 1 (by show _ ≤ 140737488351232; omega)
    have e1 : ((1 : Nat) : Int) = 1 := rfl
    rw [e1] at w1
    have hwi := hw l[i] (List.getElem_mem hi)
    have h41 := F41_eq k tok line l[i].data.toList hwi hline hT hk
    have hlen : ((l.take i).map (putB tok line) ++ [putB tok line l[i]]).length ≤ 1048577 := by
      rw [List.length_append, List.length_map, List.length_take, List.length_singleton]; omega
    have hb := ble16 hlen
    have hb' : (Nat.ble (((l.take i).map (putB tok line) ++ [mk (putT tok line l[i].data.toList)]).length * 16) 140737488355328 && Nat.ble ((l.take i).map (putB tok line) ++ [mk (putT tok line l[i].data.toList)]).length 9223372036854775807) = true := hb
    simp only [F24.s58, F24.go58, lt_dec hi, dec0, Bool.true_and, cond_true, Int.toNat_natCast, getD_in hi]
    have h41' : F41.go k l[i] (mk tok) (mk line) = some ((mk (putT tok line l[i].data.toList), ()), (), ()) := h41
    simp only [h41', Option.bind_some, hb', cond_true, w1]
    rw [take_succ hi, List.map_append]; rfl
  · simp only [F24.s58, F24.go58, lt_dec', cond_false, List.take_length]
theorem F21_eq (k : Nat) (l : List ByteArray) (tok line : List UInt8) (hl : l.length ≤ 1048576) (hw : ∀ w ∈ l, w.size ≤ 2000) (hline : line.length ≤ 2000) (hk : 2001 < k) (hkl : l.length < k) :
    F21.go k (mk tok) (mk line) l = some (.inr (((), ()), (l, l.map (putB tok line), ()), ())) := by
  have loop := loopN_iter (f := F21.s58 k) (fun i => (((i : Int), (), mk line, mk tok, (), (l.length : Int), ()), (l, (l.take i).map (putB tok line), ()), ())) l.length (.inr (((), ()), (l, l.map (putB tok line), ()), ())) (fun i hi => ?_) ?_ k hkl
  · have e0 : ((0 : Nat) : Int) = 0 := rfl
    have e1 : (l.take 0).map (putB tok line) = [] := rfl
    simp only [e0, e1] at loop
    unfold F21.go F21.l_58
    rw [loop]; rfl
  · have w1 := wadd i 1 (by show _ ≤ 140737488351232; omega)
    have e1 : ((1 : Nat) : Int) = 1 := rfl
    rw [e1] at w1
    have hwi := hw l[i] (List.getElem_mem hi)
    have hlen : ((l.take i).map (putB tok line) ++ [putB tok line l[i]]).length ≤ 1048577 := by
      rw [List.length_append, List.length_map, List.length_take, List.length_singleton]; omega
    have hb := ble16 hlen
    simp only [F21.s58, F21.go58, lt_dec hi, dec0, Bool.true_and, cond_true, Int.toNat_natCast, getD_in hi]
    show (bif !((mk tok).toList == (mk []).toList) then _ else _) = _
    rw [mk_nil]
    cases htok : tok.isEmpty
    · have ht : tok ≠ [] := fun e => by subst e; exact absurd htok (by decide)
      have e : putB tok line l[i] = mk (put tok line l[i].data.toList) := by unfold putB putT; rw [htok]; rfl
      have h39 : F39.go k l[i] (mk tok) (mk line) = some (.inl ((mk (put tok line l[i].data.toList), ()), (), ())) := F39_eq k tok line l[i].data.toList ht hwi hline hk
      rw [e] at hb
      simp only [Bool.not_false, cond_true, h39, Option.bind_some, Sum.elim_inl, hb, w1]
      rw [take_succ hi, List.map_append, List.map_cons, e]; rfl
    · have e : putB tok line l[i] = l[i] := by unfold putB putT; rw [htok]; rfl
      rw [e] at hb
      simp only [Bool.not_true, cond_false, hb, cond_true, w1]
      rw [take_succ hi, List.map_append, List.map_cons, e]; rfl
  · simp only [F21.s58, F21.go58, lt_dec', cond_false, List.take_length]
theorem F12_eq (k : Nat) (l : List ByteArray) (hl : l.length ≤ 1048576) (hkl : l.length < k) : F12.go k l l = some ((true, ()), (), ()) := by
  have loop := loopN_iter (f := F12.s58 k) (fun i => (((i : Int), l, l, (l.length : Int), ()), (), ())) l.length (.inr ((), (), ())) (fun i hi => ?_) ?_ k hkl
  · have e0 : ((0 : Nat) : Int) = 0 := rfl
    simp only [e0] at loop
    unfold F12.go F12.l_58
    rw [bne_self_eq_false, cond_false, loop]; rfl
  · have w1 := wadd i 1 (by show _ ≤ 140737488351232; omega)
    have e1 : ((1 : Nat) : Int) = 1 := rfl
    rw [e1] at w1
    simp only [F12.s58, F12.go58, lt_dec hi, dec0, Bool.true_and, cond_true, Int.toNat_natCast, beq_self_eq_true, Bool.not_true, cond_false, w1]
  · simp only [F12.s58, F12.go58, lt_dec', cond_false]
end Go.Proofs.Tryd.S

namespace Go.Proofs.Tryd.S
open Go Go.Ev
/-! ### NAME=VALUE -/
def asg (s : List UInt8) : ByteArray × ByteArray × Bool × Unit :=
  bif decide (0 < Lib.index s [61]) then (mk (s.take (Lib.index s [61]).toNat), mk (s.drop ((Lib.index s [61]).toNat + 1)), true, ()) else (mk [], mk [], false, ())
theorem F22_eq (k : Nat) (s : List UInt8) (hs : s.length ≤ 2000) : F22.go k (mk s) = some ((asg s, ()), (), ()) := by
  have d1 : decide (s.length < 4294967281) = true := decide_eq_true (by omega)
  have hg := Lib.index_ge s [61]
  unfold F22.go asg
  simp only [mk_size, d1, cond_true]
  by_cases h0 : 0 ≤ Lib.index s [61]
  · have hfit := index_fit [61] s h0
    have hcut : Lib.cut s [61] = (s.take (Lib.index s [61]).toNat, s.drop ((Lib.index s [61]).toNat + 1), true) := by unfold Lib.cut; rw [if_pos h0]; rfl
    have hC : cutC (mk s) (mk [61]) = true := by show (Lib.cut s [61]).2.2 = true; rw [hcut]
    have hA : cutA (mk s) (mk [61]) = mk (s.take (Lib.index s [61]).toNat) := by show (⟨(Lib.cut s [61]).1.toArray⟩ : ByteArray) = _; rw [hcut]
    have hB : cutB (mk s) (mk [61]) = mk (s.drop ((Lib.index s [61]).toNat + 1)) := by show (⟨(Lib.cut s [61]).2.1.toArray⟩ : ByteArray) = _; rw [hcut]
    show (bif !cutC (mk s) (mk [61]) then _ else bif (cutA (mk s) (mk [61])).toList == (mk []).toList then _ else some (((cutA (mk s) (mk [61]), cutB (mk s) (mk [61]), true, ()), ()), (), ())) = _
    rw [hC, hA, hB, mk_nil]
    by_cases hp : 0 < Lib.index s [61]
    · have d2 : decide (0 < Lib.index s [61]) = true := decide_eq_true hp
      have hne : (s.take (Lib.index s [61]).toNat).isEmpty = false := by
        have hl : (s.take (Lib.index s [61]).toNat).length = (Lib.index s [61]).toNat := by rw [List.length_take]; simp only [List.length_singleton] at hfit; omega
        cases h : s.take (Lib.index s [61]).toNat with
        | nil => rw [h] at hl; simp only [List.length_nil] at hl; omega
        | cons a r => rfl
      rw [d2, hne]; rfl
    · have e : Lib.index s [61] = 0 := by omega
      rw [e]; rfl
  · have d2 : decide (0 < Lib.index s [61]) = false := decide_eq_false (by omega)
    have hcut : Lib.cut s [61] = (s, [], false) := by unfold Lib.cut; rw [if_neg h0]
    have hC : cutC (mk s) (mk [61]) = false := by show (Lib.cut s [61]).2.2 = false; rw [hcut]
    show (bif !cutC (mk s) (mk [61]) then _ else _) = _
    rw [hC, d2]; rfl
theorem idx61 (c : UInt8) (r : List UInt8) : Lib.index (c :: r) [61] = if (61 == c) = true then 0 else if Lib.index r [61] == -1 then -1 else Lib.index r [61] + 1 := by
  rw [idx_cons]
  have : ([61] : List UInt8).isPrefixOf (c :: r) = (61 == c) := by
    show ((61 == c) && ([] : List UInt8).isPrefixOf r) = _
    cases (61 : UInt8) == c <;> rfl
  rw [this]
theorem byte61 (c : UInt8) : (((c.toNat : Nat) : Int) == 61) = ((61 : UInt8) == c) := by
  by_cases h : (61 : UInt8) = c
  · subst h; rfl
  · rw [beq_eq_false_iff_ne.2 h, beq_eq_false_iff_ne]
    intro e
    have : c.toNat = 61 := by omega
    exact h (UInt8.toNat_inj.1 (by rw [this]; rfl))
theorem F23_loop (k : Nat) (s : List UInt8) (hs : s.length ≤ 2000) : ∀ (m i fu : Nat), i + m = s.length → m < fu →
    loopN (F23.s26 k) fu ((mk s, (i : Int), (s.length : Int), ()), (), ()) = some (bif decide (0 ≤ Lib.index (s.drop i) [61]) then
      .inl (bif decide (0 < (i : Int) + Lib.index (s.drop i) [61]) then (((mk (s.take (i + (Lib.index (s.drop i) [61]).toNat))), mk (s.drop (i + (Lib.index (s.drop i) [61]).toNat + 1)), true, ()), (), ()) else ((mk [], mk [], false, ()), (), ())) else .inr ((), (), ())) := by
  intro m
  induction m with
  | zero =>
    intro i fu hi hf
    obtain ⟨fu, rfl⟩ : ∃ f', fu = f' + 1 := ⟨fu - 1, by omega⟩
    have hie : i = s.length := by omega
    subst hie
    refine loopN_inr ?_
    have e : Lib.index (s.drop s.length) [61] = -1 := by rw [List.drop_length]; rfl
    simp only [F23.s26, F23.go26, lt_dec', cond_false, e]
    rfl
  | succ m ih =>
    intro i fu hi hf
    obtain ⟨fu, rfl⟩ : ∃ f', fu = f' + 1 := ⟨fu - 1, by omega⟩
    have hi' : i < s.length := by omega
    have w1 := wadd i 1 (by show _ ≤ 140737488351232; omega)
    have e1 : ((1 : Nat) : Int) = 1 := rfl
    rw [e1] at w1
    have hd := drop_at hi'
    have hix := idx61 s[i] (s.drop (i + 1))
    rw [← hd] at hix
    have d1 : decide ((i : Int) ≤ (s.length : Int)) = true := decide_eq_true (by omega)
    have d2 : decide (((i + 1 : Nat) : Int) ≤ (s.length : Int)) = true := decide_eq_true (by omega)
    cases hb : (61 : UInt8) == s[i]
    · -- not here
      have hbyte := byte61 s[i]
      rw [hb] at hbyte
      have hneq : ¬ ((61 : UInt8) == s[i]) = true := by rw [hb]; decide
      rw [if_neg hneq] at hix
      have hgo : F23.s26 k ((mk s, (i : Int), (s.length : Int), ()), (), ()) = some (.inl ((mk s, ((i + 1 : Nat) : Int), (s.length : Int), ()), (), ())) := by
        simp only [F23.s26, F23.go26, mk_size, lt_dec hi', dec0, Bool.true_and, cond_true, Int.toNat_natCast, mk_get hi', hbyte, cond_false, w1]
      rw [loopN_inl hgo, ih (i + 1) fu (by omega) (by omega)]
      have hg := Lib.index_ge (s.drop (i + 1)) [61]
      by_cases h2 : (Lib.index (s.drop (i + 1)) [61] == -1) = true
      · have h3 : Lib.index (s.drop (i + 1)) [61] = -1 := by simpa using h2
        rw [if_pos h2] at hix
        rw [hix, h3]; rfl
      · rw [if_neg h2] at hix
        have h3 : Lib.index (s.drop (i + 1)) [61] ≠ -1 := by simpa using h2
        obtain ⟨p, hp⟩ : ∃ p : Nat, Lib.index (s.drop (i + 1)) [61] = (p : Int) := ⟨_, (Int.toNat_of_nonneg (by omega)).symm⟩
        rw [hix, hp]
        have q1 : decide ((0 : Int) ≤ (p : Int)) = true := dec0 p
        have q2 : decide ((0 : Int) ≤ (p : Int) + 1) = true := decide_eq_true (by omega)
        have q3 : decide ((0 : Int) < ((i + 1 : Nat) : Int) + (p : Int)) = true := decide_eq_true (by omega)
        have q4 : decide ((0 : Int) < (i : Int) + ((p : Int) + 1)) = true := decide_eq_true (by omega)
        have q5 : ((p : Int) + 1).toNat = p + 1 := by omega
        have q6 : i + 1 + p = i + (p + 1) := by omega
        rw [q1, q2, q3, q4, q5, Int.toNat_natCast, q6]
    · have hbyte := byte61 s[i]
      rw [hb] at hbyte
      rw [if_pos hb] at hix
      refine loopN_inr ?_
      rw [hix]
      have hsub0 : (mk s).extract 0 i = mk (s.take i) := by rw [ext_sub, List.drop_zero, Nat.sub_zero]
      by_cases h0 : 0 < i
      · have d3 : decide ((i : Int) > 0) = true := decide_eq_true (by omega)
        have d4 : decide ((0 : Int) < (i : Int) + 0) = true := decide_eq_true (by omega)
        simp only [F23.s26, F23.go26, mk_size, lt_dec hi', dec0, Bool.true_and, Bool.and_true, cond_true, Int.toNat_natCast, mk_get hi', hbyte, d1, d2, d3, d4, w1, hsub0, ext_mk s (i + 1) s.length rfl]
        rfl
      · have e : i = 0 := by omega
        subst e
        have d3 : decide (((0 : Nat) : Int) > 0) = false := rfl
        have d4 : decide ((0 : Int) < ((0 : Nat) : Int) + 0) = false := rfl
        simp only [F23.s26, F23.go26, mk_size, lt_dec hi', dec0, Bool.true_and, Bool.and_true, cond_true, cond_false, Int.toNat_natCast, mk_get hi', hbyte, d3, d4]
        rfl
theorem F23_eq (k : Nat) (s : List UInt8) (hs : s.length ≤ 2000) (hk : 2001 < k) : F23.go k (mk s) = some ((asg s, ()), (), ()) := by
  have := F23_loop k s hs s.length 0 k (by omega) (by omega)
  have e0 : ((0 : Nat) : Int) = 0 := rfl
  rw [e0, List.drop_zero] at this
  unfold F23.go F23.l_26 asg
  simp only [mk_size]
  rw [this, Option.bind_some]
  have hg := Lib.index_ge s [61]
  by_cases h0 : 0 ≤ Lib.index s [61]
  · rw [decide_eq_true h0, Int.zero_add, Nat.zero_add]
    cases decide (0 < Lib.index s [61]) <;> rfl
  · have d2 : decide (0 < Lib.index s [61]) = false := decide_eq_false (by omega)
    rw [decide_eq_false h0, d2]; rfl
/-! ### ArgsReplaces -/
def szs (l : List ByteArray) : Nat := (l.map (·.size)).sum
theorem szs_take {l : List ByteArray} {i : Nat} (h : i < l.length) : szs (l.take (i + 1)) = szs (l.take i) + l[i].size := by
  unfold szs
  rw [take_succ h, List.map_append, List.sum_append]; simp
theorem szs_bulk : ∀ l : List ByteArray, szs l ≤ strBulk l
  | [] => Nat.le_refl _
  | s :: r => by
    have := szs_bulk r
    show s.size + szs r ≤ s.size + 1 + strBulk r
    omega
theorem szs_pre (l : List ByteArray) (i : Nat) : szs (l.take i) ≤ szs l := by
  have h : szs l = szs (l.take i) + szs (l.drop i) := by
    unfold szs
    rw [← List.sum_append, ← List.map_append, List.take_append_drop]
  omega
theorem szs_mem : ∀ (l : List ByteArray) (w : ByteArray), w ∈ l → w.size ≤ szs l
  | s :: r, w, h => by
    show w.size ≤ s.size + szs r
    cases List.mem_cons.1 h with
    | inl e => subst e; omega
    | inr e => have := szs_mem r w e; omega
theorem F15_eq (k : Nat) : F15.go (k + 200) = some ((true, ()), (), ()) := by kernel_rfl
theorem argsReplaces (a0 : List ByteArray) (a1 a2 : ByteArray) (hl : a0.length ≤ 1048576) (hb : strBulk a0 ≤ 1048576) (h1 : a1.size ≤ 1048576) : F5.go (2000000 + 200) a0 a1 a2 = some (.inl ((true, ()), (), ())) := by
  have hA := F15_eq 2000000
  obtain ⟨k, hk⟩ : ∃ k, k = 2000000 + 200 := ⟨_, rfl⟩
  rw [← hk] at hA ⊢
  obtain ⟨⟨tok⟩⟩ := a1
  obtain ⟨⟨line⟩⟩ := a2
  have h1 : tok.length ≤ 1048576 := h1
  have hsz := szs_bulk a0
  have loop := loopN_iter (f := F5.s58 k) (fun i => (((i : Int), ((szs (a0.take i) : Nat) : Int), a0, a0, mk line, mk tok, (a0.length : Int), ()), (), ())) a0.length ((a0, mk line, mk tok, ((szs a0 : Nat) : Int), ()), (), ()) (fun i hi => ?_) ?_ k (by omega)
  · have e0 : ((0 : Nat) : Int) = 0 := rfl
    have e1 : ((szs (a0.take 0) : Nat) : Int) = 0 := rfl
    simp only [e0, e1] at loop
    unfold F5.go F5.l_58
    rw [loop, Option.bind_some]
    by_cases hn : 2000 < szs a0
    · have d1 : decide (((szs a0 : Nat) : Int) > 2000) = true := decide_eq_true (by omega)
      simp only [d1, cond_true, hA, Option.bind_some]
    · have d1 : decide (((szs a0 : Nat) : Int) > 2000) = false := decide_eq_false (by omega)
      by_cases hln : 2000 < line.length
      · have d2 : decide ((line.length : Int) > 2000) = true := decide_eq_true (by omega)
        simp only [d1, d2, mk_size, cond_true, cond_false, hA, Option.bind_some]
      · have d2 : decide ((line.length : Int) > 2000) = false := decide_eq_false (by omega)
        have hw : ∀ w ∈ a0, w.size ≤ 2000 := fun w h => by have := szs_mem a0 w h; omega
        have hm : (a0.map (putB tok line)).length ≤ 1048576 := by rw [List.length_map]; exact hl
        have b1 := ble16 (n := a0.length) (by omega)
        have f21 := F21_eq k a0 tok line hl hw (by omega) (by omega) (by omega)
        have f24 := F24_eq k a0 tok line hl hw (by omega) h1 (by omega) (by omega)
        have f12a := F12_eq k (a0.map (putB tok line)) hm (by rw [List.length_map]; omega)
        have f12b := F12_eq k a0 hl (by omega)
        have f22 := F22_eq k line (by omega)
        have f23 := F23_eq k line (by omega) (by omega)
        simp only [d1, d2, mk_size, cond_false, b1, cond_true, f21, f22, f23, f24, f12a, f12b, Option.bind_some, Sum.elim_inr, beq_self_eq_true, hA]
  · have hp := szs_pre a0 i
    have hp2 := szs_pre a0 (i + 1)
    have hst := szs_take hi
    have w1 := wadd i 1 (by show _ ≤ 140737488351232; omega)
    have e1 : ((1 : Nat) : Int) = 1 := rfl
    rw [e1] at w1
    have w2 := wadd (szs (a0.take i)) a0[i].size (by show _ ≤ 140737488351232; omega)
    simp only [F5.s58, F5.go58, lt_dec hi, dec0, Bool.true_and, cond_true, Int.toNat_natCast, getD_in hi, w1, w2, hst]
  · simp only [F5.s58, F5.go58, lt_dec', cond_false, List.take_length]
end Go.Proofs.Tryd.S

