/- The plain law: what the functions that the law compares make is the same, over lists and numbers alone. -/
import Derived.Test.YtlkhhhfoiipiaaaSplitsWalk2
import Derived.Test.YtlkhhhfoiipiaaaEv4
set_option linter.unusedVariables false
set_option linter.unusedSimpArgs false
set_option linter.unusedSectionVars false
set_option maxRecDepth 100000
namespace Go.Proofs.Try.S
open Go Go.Ev
theorem loopN_inr {A B : Type} {f : A → Option (A ⊕ B)} {k : Nat} {x : A} {y : B} (h : f x = some (.inr y)) : loopN f (k + 1) x = some y := by
  unfold loopN; rw [h]
theorem loopN_inl {A B : Type} {f : A → Option (A ⊕ B)} {k : Nat} {x x' : A} (h : f x = some (.inl x')) : loopN f (k + 1) x = loopN f k x' := by
  rw [loopN, h]
theorem drop_int {l : List Int} {i : Nat} (h : i < l.length) : l.drop i = l[i] :: l.drop (i + 1) := List.drop_eq_getElem_cons h
/-- the column behind a byte -/
def wideN (at_ : Nat) (c : Int) : Nat := bif c == 9 then at_ + 8 - at_ % 8 else bif c == 8 then at_ - 1 else bif c == 13 then 0 else at_ + 1
def colFrom : Nat → List Int → Nat
  | a, [] => a
  | a, c :: l => colFrom (wideN a c) l
def colN (l : List Int) : Nat := colFrom 0 l
theorem wideN_le (a : Nat) (c : Int) : wideN a c ≤ a + 8 := by
  unfold wideN
  cases c == 9 <;> cases c == 8 <;> cases c == 13 <;> simp only [cond_true, Bool.and_self, Bool.true_and, Bool.and_true, cond_false] <;> omega
theorem colFrom_le : ∀ (l : List Int) (a : Nat), colFrom a l ≤ a + 8 * l.length
  | [], a => by simp [colFrom]
  | c :: l, a => by
    have h1 := wideN_le a c
    have h2 := colFrom_le l (wideN a c)
    simp only [colFrom, List.length_cons]; omega
theorem colFrom_append : ∀ (l : List Int) (a : Nat) (c : Int), colFrom a (l ++ [c]) = wideN (colFrom a l) c
  | [], a, c => rfl
  | d :: l, a, c => colFrom_append l (wideN a d) c
theorem F46_eq (k a : Nat) (c : Int) (h : a ≤ 100000000) : F46.go k (a : Int) c = some ((((wideN a c : Nat) : Int), ()), (), ()) := by
  have e1 : IntKind.i64.wrap ((a : Int) + 8) = (a : Int) + 8 := wrap_id (by omega) (by omega)
  have e2 : (a : Int).tmod 8 = ((a % 8 : Nat) : Int) := rfl
  have e3 : IntKind.i64.wrap ((a : Int) + 8 - ((a % 8 : Nat) : Int)) = ((a + 8 - a % 8 : Nat) : Int) := by rw [wrap_id (by omega) (by omega)]; omega
  have e4 : IntKind.i64.wrap ((a : Int) - 1) = (a : Int) - 1 := wrap_id (by omega) (by omega)
  have e5 : IntKind.i64.wrap ((a : Int) + 1) = ((a + 1 : Nat) : Int) := by rw [wrap_id (by omega) (by omega)]; rfl
  unfold F46.go wideN
  cases c == 9
  · cases c == 8
    · cases c == 13
      · simp only [cond_false, e5]
      · rfl
    · simp only [cond_false, cond_true, Bool.and_self, Bool.true_and, Bool.and_true, e4]
      by_cases h0 : a = 0
      · subst h0; rfl
      · have : ¬ ((a : Int) - 1 < 0) := by omega
        simp only [this, decide_false, cond_false]
        congr 3
        omega
  · simp only [cond_true, Bool.and_self, Bool.true_and, Bool.and_true, e1, e2, e3]
theorem F49l (k0 : Nat) (l : List Int) (hl : l.length ≤ 4000000) : ∀ (k i a : Nat), i ≤ l.length → l.length - i < k → a ≤ 8 * i →
    loopN (fun x => F49.go58 k0 x.fst.fst x.fst.snd.fst x.fst.snd.snd.snd.fst x.snd.fst.fst) k (((i : Int), (a : Int), (), (l.length : Int), ()), (l, ()), ()) = some ((((colFrom a (l.drop i) : Nat) : Int), ()), (l, ()), ())
  | 0, i, a, h, hk, _ => absurd hk (Nat.not_lt_zero _)
  | k + 1, i, a, h, hk, ha => by
    rcases Nat.lt_or_ge i l.length with c | c
    · have h0 : (i : Int) < (l.length : Int) := by omega
      have h0' : (0 : Int) ≤ (i : Int) := by omega
      have s : F49.go58 k0 i a l.length l = some (.inl ((((i + 1 : Nat) : Int), ((wideN a l[i] : Nat) : Int), (), (l.length : Int), ()), (l, ()), ())) := by
        unfold F49.go58
        simp only [h0, h0', decide_true, cond_true, Bool.and_self, Bool.true_and, Bool.and_true, Int.toNat_natCast, getD_in c, F46_eq k0 a _ (by omega), Option.bind_some, wrap_id (n := (i : Int) + 1) (by omega) (by omega)]
        rfl
      rw [drop_int c, colFrom]
      have := wideN_le a l[i]
      exact (loopN_inl s).trans (F49l k0 l hl k (i + 1) _ c (by omega) (by omega))
    · have : i = l.length := Nat.le_antisymm h c
      subst this
      refine loopN_inr ?_
      dsimp only
      unfold F49.go58
      simp only [Int.lt_irrefl, decide_false, cond_false, List.drop_length]
      rfl
theorem F49_eq (k : Nat) (l : List Int) (hl : l.length ≤ 4000000) (hk : l.length < k) : F49.go k l = some ((((colN l : Nat) : Int), ()), (l, ()), ()) := by
  have L : F49.l_58 k ((0, 0, (), ↑l.length, ()), (l, ()), ()) = _ := F49l k l hl k 0 0 (Nat.zero_le _) (by omega) (Nat.zero_le _)
  unfold F49.go
  rw [L]; rfl
/-- how many bytes up to the last blank -/
def blankB (c : Int) : Bool := c == 32 || c == 9
def lastB (l : List Int) : Nat → Nat
  | 0 => 0
  | n + 1 => bif blankB (l.getD n 0) then n + 1 else lastB l n
theorem lastB_le (l : List Int) : ∀ n, lastB l n ≤ n
  | 0 => Nat.le_refl _
  | n + 1 => by
    unfold lastB
    cases blankB (l.getD n 0)
    · exact Nat.le_succ_of_le (lastB_le l n)
    · exact Nat.le_refl _
theorem F73_eq (k : Nat) (c : Int) : F73.go k c = some ((blankB c, ()), (), ()) := by
  unfold F73.go blankB
  cases c == 32 <;> rfl
theorem F47l (k0 : Nat) (l : List Int) (hl : l.length ≤ 4000000) : ∀ (k n : Nat), n ≤ l.length → n < k →
    loopN (fun x => F47.go26 k0 x.fst.fst x.snd.fst.fst) k (((n : Int), (), ()), (l, ()), ()) = some (bif lastB l n == 0 then .inr ((), (l, ()), ()) else .inl ((((lastB l n : Nat) : Int), ()), (l, ()), ()))
  | 0, n, _, h => absurd h (Nat.not_lt_zero _)
  | k + 1, 0, _, _ => loopN_inr (by unfold F47.go26; rfl)
  | k + 1, n + 1, hn, hk => by
    have h0 : ((n + 1 : Nat) : Int) > 0 := by omega
    have e : IntKind.i64.wrap (((n + 1 : Nat) : Int) - 1) = (n : Int) := by rw [wrap_id (by omega) (by omega)]; omega
    have h1 : (0 : Int) ≤ (n : Int) := by omega
    have h2 : (n : Int) < (l.length : Int) := by omega
    have hg : l.getD n 0 = l[n]'hn := by rw [List.getD_eq_getElem?_getD, List.getElem?_eq_getElem hn]; rfl
    rw [lastB, hg]
    cases eb : blankB (l[n]'hn)
    · have s : F47.go26 k0 ((n + 1 : Nat) : Int) l = some (.inl (((n : Int), (), ()), (l, ()), ())) := by
        unfold F47.go26
        simp only [h0, e, h1, h2, decide_true, cond_true, Bool.and_self, Bool.true_and, Bool.and_true, Int.toNat_natCast, getD_in (l := l) hn, F73_eq, Option.bind_some, eb, cond_false]
      exact (loopN_inl s).trans (F47l k0 l hl k n (by omega) (by omega))
    · refine loopN_inr ?_
      dsimp only
      unfold F47.go26
      simp only [h0, e, h1, h2, decide_true, cond_true, Bool.and_self, Bool.true_and, Bool.and_true, Int.toNat_natCast, getD_in (l := l) hn, F73_eq, Option.bind_some, eb]
      rfl
theorem F47_eq (k : Nat) (l : List Int) (hl : l.length ≤ 4000000) (hk : l.length < k) : F47.go k l = some ((((lastB l l.length : Nat) : Int), ()), (l, ()), ()) := by
  have L : F47.l_26 k ((↑l.length, (), ()), (l, ()), ()) = _ := F47l k l hl k l.length (Nat.le_refl _) (by omega)
  unfold F47.go
  rw [L]
  cases e : lastB l l.length == 0
  · rfl
  · rw [beq_iff_eq] at e
    rw [e]; rfl
theorem app_eq (a b : List Int) : a.append b = a ++ b := rfl
theorem F48_eq (k off len : Nat) (l : List Int) (hl : l.length ≤ 4000000) : F48.go k (off, len) l = some (((), ()), (l, (l.drop off).take len, ()), ()) := by
  have h0 : (Value.int IntKind.u8 0).cells.size.beq 1 = true := rfl
  have hle : ((l.drop off).take len).length ≤ l.length := by simp; omega
  have h1 : (((l.drop off).take len).length * 1).ble 140737488355328 = true := Nat.ble_eq_true_of_le (by omega)
  have h2 : ((l.drop off).take len).length.ble 9223372036854775807 = true := Nat.ble_eq_true_of_le (by omega)
  unfold F48.go
  simp only [h0, h1, h2, cond_true, Bool.and_self, Bool.true_and, Bool.and_true]
def cutN (words : Bool) (p : List Int) : Nat := bif words && decide (0 < lastB p p.length) then lastB p p.length else p.length
theorem cutN_le (words : Bool) (p : List Int) : cutN words p ≤ p.length := by
  unfold cutN
  have := lastB_le p p.length
  cases words && decide (0 < lastB p p.length)
  · exact Nat.le_refl _
  · exact this
theorem cutN_pos (words : Bool) (p : List Int) (h : 0 < colN p) : 0 < cutN words p := by
  have hp : 0 < p.length := by
    cases p with
    | nil => exact absurd h (Nat.lt_irrefl _)
    | cons c t => simp
  unfold cutN
  cases e : words && decide (0 < lastB p p.length)
  · exact hp
  · rw [Bool.and_eq_true, decide_eq_true_eq] at e; exact e.2
def innerS (words : Bool) (width : Int) (c : Int) : Nat → List Int → List Int → List Int × List Int
  | 0, out, p => (out, p)
  | n + 1, out, p => bif decide (0 < colN p) && decide (width < ((wideN (colN p) c : Nat) : Int)) then innerS words width c n (out ++ p.take (cutN words p) ++ [10]) (p.drop (cutN words p)) else (out, p)
theorem innerS_len (words : Bool) (width c : Int) : ∀ (n : Nat) (out p : List Int), (innerS words width c n out p).2.length ≤ p.length ∧ (innerS words width c n out p).1.length + 2 * (innerS words width c n out p).2.length ≤ out.length + 2 * p.length
  | 0, out, p => ⟨Nat.le_refl _, Nat.le_refl _⟩
  | n + 1, out, p => by
    unfold innerS
    cases e : decide (0 < colN p) && decide (width < ((wideN (colN p) c : Nat) : Int))
    · exact ⟨Nat.le_refl _, Nat.le_refl _⟩
    · rw [Bool.and_eq_true, decide_eq_true_eq] at e
      have h1 := cutN_pos words p e.1
      have h2 := cutN_le words p
      have ih := innerS_len words width c n (out ++ p.take (cutN words p) ++ [10]) (p.drop (cutN words p))
      have e1 : (out ++ p.take (cutN words p) ++ [10]).length = out.length + cutN words p + 1 := by simp; omega
      have e2 : (p.drop (cutN words p)).length = p.length - cutN words p := List.length_drop
      rw [e1, e2] at ih
      simp only [cond_true, Bool.and_self, Bool.true_and, Bool.and_true]
      omega
theorem inner_step (k : Nat) (words : Bool) (width : Int) (b : List Int) (bl i c : Int) (p out : List Int) (hp : p.length ≤ 2000000) (ho : out.length + 2 * p.length ≤ 4000000) (hk : p.length + 1 ≤ k) :
    F10.go128204 k words width b bl i c ((colN p : Nat) : Int) p out = bif decide (0 < colN p) && decide (width < ((wideN (colN p) c : Nat) : Int)) then
        some (.inl (((), (), words, width, b, bl, i, c, ((colN (p.drop (cutN words p)) : Nat) : Int), ()), (p.drop (cutN words p), out ++ p.take (cutN words p) ++ [10], ()), ()))
      else some (.inr (((), words, width, b, bl, i, c, ((colN p : Nat) : Int), (), ()), (out, p, ()), ())) := by
  have hcol := colFrom_le p 0
  have hc : colN p ≤ 100000000 := by unfold colN; omega
  have hcut := cutN_le words p
  have hlast := lastB_le p p.length
  have h0 : (Value.int IntKind.u8 0).cells.size.beq 1 = true := rfl
  have key : ∀ m : Nat, m ≤ p.length → 0 < p.length →
      (((out ++ p.take m).length * 1).ble 140737488355328 = true ∧ (out ++ p.take m).length.ble 9223372036854775807 = true) ∧ ((out ++ p.take m ++ [10]).length * 1).ble 140737488355328 = true ∧ (out ++ p.take m ++ [10]).length.ble 9223372036854775807 = true := by
    intro m hm hpos
    have e1 : (out ++ p.take m).length = out.length + m := by simp; omega
    have e2 : (out ++ p.take m ++ [10]).length = out.length + m + 1 := by simp; omega
    rw [e1, e2]
    exact ⟨⟨Nat.ble_eq_true_of_le (by omega), Nat.ble_eq_true_of_le (by omega)⟩, Nat.ble_eq_true_of_le (by omega), Nat.ble_eq_true_of_le (by omega)⟩
  have own (m : Nat) (hm : m ≤ p.length) : F48.go k (m, p.length - m) p = some (((), ()), (p, p.drop m, ()), ()) := by
    rw [F48_eq k m (p.length - m) p (by omega)]
    have : (p.drop m).take (p.length - m) = p.drop m := by rw [← List.length_drop, List.take_length]
    rw [this]
  have col (m : Nat) : F49.go k (p.drop m) = some ((((colN (p.drop m) : Nat) : Int), ()), (p.drop m, ()), ()) := F49_eq k (p.drop m) (by rw [List.length_drop]; omega) (by rw [List.length_drop]; omega)
  unfold F10.go128204
  by_cases c1 : 0 < colN p
  · have hpos : 0 < p.length := by
      cases p with
      | nil => exact absurd c1 (Nat.lt_irrefl _)
      | cons c t => simp
    have d1 : ((colN p : Nat) : Int) > 0 := by omega
    simp only [d1, c1, decide_true, cond_true, Bool.and_self, Bool.true_and, Bool.and_true, Bool.true_and, F46_eq k (colN p) c hc, Option.bind_some]
    by_cases c2 : width < ((wideN (colN p) c : Nat) : Int)
    · have d2 : ((wideN (colN p) c : Nat) : Int) > width := c2
      simp only [d2, c2, decide_true, cond_true, Bool.and_self, Bool.true_and, Bool.and_true, F47_eq k p (by omega) (by omega), Option.bind_some]
      have full : cutN words p = p.length → F10.go128204 k words width b bl i c ((colN p : Nat) : Int) p out = F10.go128204 k words width b bl i c ((colN p : Nat) : Int) p out := fun _ => rfl
      cases words with
      | false =>
        have ec : cutN false p = p.length := rfl
        obtain ⟨⟨k1, k2⟩, k3, k4⟩ := key p.length (Nat.le_refl _) hpos
        have z1 : (0 : Int) ≤ ((p.length : Nat) : Int) := by omega
        rw [ec]
        simp only [cond_false, z1, Int.le_refl, decide_true, h0, app_eq, Int.toNat_natCast, Nat.sub_zero, k1, k2, cond_true, Bool.and_self, Bool.true_and, Bool.and_true]
        have k3' : ((out ++ p.take p.length ++ [10]).length * 1).ble 140737488355328 = true := k3
        have k4' : (out ++ p.take p.length ++ [10]).length.ble 9223372036854775807 = true := k4
        simp only [k3', k4', cond_true, Bool.and_self, Bool.true_and, Bool.and_true, own p.length (Nat.le_refl _), col, Option.bind_some]
      | true =>
        by_cases c3 : 0 < lastB p p.length
        · have ec : cutN true p = lastB p p.length := by unfold cutN; simp [c3]
          obtain ⟨⟨k1, k2⟩, k3, k4⟩ := key (lastB p p.length) hlast hpos
          have z0 : ((lastB p p.length : Nat) : Int) > 0 := by omega
          have z1 : (0 : Int) ≤ ((lastB p p.length : Nat) : Int) := by omega
          have z2 : ((lastB p p.length : Nat) : Int) ≤ ((p.length : Nat) : Int) := by omega
          rw [ec]
          simp only [cond_true, Bool.and_self, Bool.true_and, Bool.and_true, z0, z1, z2, decide_true, h0, app_eq, Int.toNat_natCast, Nat.sub_zero, k1, k2]
          have k3' : ((out ++ p.take (lastB p p.length) ++ [10]).length * 1).ble 140737488355328 = true := k3
          have k4' : (out ++ p.take (lastB p p.length) ++ [10]).length.ble 9223372036854775807 = true := k4
          simp only [k3', k4', cond_true, Bool.and_self, Bool.true_and, Bool.and_true, own (lastB p p.length) hlast, col, Option.bind_some]
        · have ec : cutN true p = p.length := by unfold cutN; simp [c3]
          obtain ⟨⟨k1, k2⟩, k3, k4⟩ := key p.length (Nat.le_refl _) hpos
          have z0 : ¬ ((lastB p p.length : Nat) : Int) > 0 := by omega
          have z1 : (0 : Int) ≤ ((p.length : Nat) : Int) := by omega
          rw [ec]
          simp only [cond_true, Bool.and_self, Bool.true_and, Bool.and_true, z0, z1, Int.le_refl, decide_true, decide_false, cond_false, h0, app_eq, Int.toNat_natCast, Nat.sub_zero, k1, k2]
          have k3' : ((out ++ p.take p.length ++ [10]).length * 1).ble 140737488355328 = true := k3
          have k4' : (out ++ p.take p.length ++ [10]).length.ble 9223372036854775807 = true := k4
          simp only [k3', k4', cond_true, Bool.and_self, Bool.true_and, Bool.and_true, own p.length (Nat.le_refl _), col, Option.bind_some]
    · have d2 : ¬ ((wideN (colN p) c : Nat) : Int) > width := c2
      simp only [d2, c2, decide_false, cond_false]
  · have d1 : ¬ ((colN p : Nat) : Int) > 0 := by omega
    simp only [d1, c1, decide_false, cond_false, Bool.false_and]
theorem inner_loop (k0 : Nat) (words : Bool) (width : Int) (b : List Int) (bl i c : Int) : ∀ (n k : Nat) (out p : List Int), p.length ≤ n → n < k → p.length ≤ 2000000 → out.length + 2 * p.length ≤ 4000000 → p.length + 1 ≤ k0 →
    loopN (fun x => F10.go128204 k0 x.fst.snd.snd.fst x.fst.snd.snd.snd.fst x.fst.snd.snd.snd.snd.fst x.fst.snd.snd.snd.snd.snd.fst
        x.fst.snd.snd.snd.snd.snd.snd.fst x.fst.snd.snd.snd.snd.snd.snd.snd.fst x.fst.snd.snd.snd.snd.snd.snd.snd.snd.fst x.snd.fst.fst x.snd.fst.snd.fst) k
      (((), (), words, width, b, bl, i, c, ((colN p : Nat) : Int), ()), (p, out, ()), ()) =
    some (((), words, width, b, bl, i, c, ((colN (innerS words width c n out p).2 : Nat) : Int), (), ()), ((innerS words width c n out p).1, (innerS words width c n out p).2, ()), ())
  | n, 0, out, p, _, hk, _, _, _ => absurd hk (Nat.not_lt_zero _)
  | 0, k + 1, out, p, h, hk, hp, ho, hk0 => by
    have : p = [] := List.length_eq_zero_iff.1 (Nat.le_zero.1 h)
    subst this
    exact loopN_inr (inner_step k0 words width b bl i c [] out hp ho hk0)
  | n + 1, k + 1, out, p, h, hk, hp, ho, hk0 => by
    have S := inner_step k0 words width b bl i c p out hp ho hk0
    unfold innerS
    cases e : decide (0 < colN p) && decide (width < ((wideN (colN p) c : Nat) : Int)) <;> rw [e] at S
    · exact loopN_inr S
    · rw [Bool.and_eq_true, decide_eq_true_eq] at e
      have h1 := cutN_pos words p e.1
      have h2 := cutN_le words p
      have e1 : (out ++ p.take (cutN words p) ++ [10]).length = out.length + cutN words p + 1 := by simp; omega
      have e2 : (p.drop (cutN words p)).length = p.length - cutN words p := List.length_drop
      exact (loopN_inl S).trans (inner_loop k0 words width b bl i c n k _ _ (by omega) (by omega) (by omega) (by omega) (by omega))
def stepS (words : Bool) (width c : Int) (out p : List Int) : List Int × List Int :=
  bif c == 10 then (out ++ p ++ [10], []) else ((innerS words width c p.length out p).1, (innerS words width c p.length out p).2 ++ [c])
def foldS (words : Bool) (width : Int) : List Int → List Int → List Int → List Int × List Int
  | [], out, p => (out, p)
  | c :: l, out, p => foldS words width l (stepS words width c out p).1 (stepS words width c out p).2
theorem stepS_len (words : Bool) (width c : Int) (out p : List Int) (i : Nat) (h : out.length + 2 * p.length ≤ 2 * i) (hp : p.length ≤ i) :
    (stepS words width c out p).1.length + 2 * (stepS words width c out p).2.length ≤ 2 * (i + 1) ∧ (stepS words width c out p).2.length ≤ i + 1 := by
  unfold stepS
  cases c == 10
  · have := innerS_len words width c p.length out p
    simp only [cond_false, List.length_append, List.length_cons, List.length_nil]
    omega
  · simp only [cond_true, Bool.and_self, Bool.true_and, Bool.and_true, List.length_append, List.length_cons, List.length_nil]
    omega
theorem colN_push (p : List Int) (c : Int) : colN (p ++ [c]) = wideN (colN p) c := colFrom_append p 0 c
theorem fold_step (k : Nat) (words : Bool) (width : Int) (b : List Int) (i : Nat) (out p : List Int) (hb : b.length ≤ 1048576) (hi : i < b.length) (h : out.length + 2 * p.length ≤ 2 * i) (hp : p.length ≤ i) (hk : b.length + 2 ≤ k) :
    F10.go250 k i words ((colN p : Nat) : Int) width b b.length p out = some (.inl ((((i + 1 : Nat) : Int), (), (), words, ((colN (stepS words width b[i] out p).2 : Nat) : Int), width, b, (b.length : Int), ()),
      ((stepS words width b[i] out p).2, (stepS words width b[i] out p).1, ()), ())) := by
  have h0 : (i : Int) < (b.length : Int) := by omega
  have h0' : (0 : Int) ≤ (i : Int) := by omega
  have r0 : (Value.int IntKind.u8 0).cells.size.beq 1 = true := rfl
  have hw : IntKind.i64.wrap ((i : Int) + 1) = ((i + 1 : Nat) : Int) := by rw [wrap_id (by omega) (by omega)]; rfl
  have ble (m : Nat) (hm : m ≤ 4000000) : (m * 1).ble 140737488355328 = true ∧ m.ble 9223372036854775807 = true := ⟨Nat.ble_eq_true_of_le (by omega), Nat.ble_eq_true_of_le (by omega)⟩
  unfold F10.go250 stepS
  simp only [h0, h0', decide_true, cond_true, Bool.and_self, Bool.true_and, Bool.and_true, Int.toNat_natCast, getD_in hi]
  cases e : b[i] == 10
  · have I := inner_loop k words width b b.length i b[i] p.length k out p (Nat.le_refl _) (by omega) (by omega) (by omega) (by omega)
    have I' : F10.l_128204 k (((), (), words, width, b, ↑b.length, ↑i, b[i], ↑(colN p), ()), (p, out, ()), ()) = _ := I
    have hin := innerS_len words width b[i] p.length out p
    have hcol := colFrom_le (innerS words width b[i] p.length out p).2 0
    have hc : colN (innerS words width b[i] p.length out p).2 ≤ 100000000 := by unfold colN; omega
    have el : ((innerS words width b[i] p.length out p).2 ++ [b[i]]).length ≤ 4000000 := by simp; omega
    obtain ⟨q1, q2⟩ := ble _ el
    simp only [cond_false, I', Option.bind_some, r0]
    have q1' : (((innerS words width b[i] p.length out p).2 ++ [b[i]]).length * 1).ble 140737488355328 = true := q1
    have q2' : ((innerS words width b[i] p.length out p).2 ++ [b[i]]).length.ble 9223372036854775807 = true := q2
    simp only [q1', q2', cond_true, Bool.and_self, Bool.true_and, Bool.and_true, F46_eq k _ b[i] hc, Option.bind_some, hw, colN_push]
  · obtain ⟨q1, q2⟩ := ble (out ++ p).length (by simp; omega)
    obtain ⟨q3, q4⟩ := ble (out ++ p ++ [10]).length (by simp; omega)
    have q3' : ((out ++ p ++ [10]).length * 1).ble 140737488355328 = true := q3
    have q4' : (out ++ p ++ [10]).length.ble 9223372036854775807 = true := q4
    simp only [cond_true, Bool.and_self, Bool.true_and, Bool.and_true, r0, app_eq, q1, q2, q3', q4', hw]
    rfl
theorem fold_loop (k0 : Nat) (words : Bool) (width : Int) (b : List Int) (hb : b.length ≤ 1048576) (hk0 : b.length + 2 ≤ k0) : ∀ (k i : Nat) (out p : List Int), i ≤ b.length → b.length - i < k → out.length + 2 * p.length ≤ 2 * i → p.length ≤ i →
    loopN (fun x => F10.go250 k0 x.fst.fst x.fst.snd.snd.snd.fst x.fst.snd.snd.snd.snd.fst x.fst.snd.snd.snd.snd.snd.fst
        x.fst.snd.snd.snd.snd.snd.snd.fst x.fst.snd.snd.snd.snd.snd.snd.snd.fst x.snd.fst.fst x.snd.fst.snd.fst) k
      (((i : Int), (), (), words, ((colN p : Nat) : Int), width, b, (b.length : Int), ()), (p, out, ()), ()) =
    some (((), (), ()), ((foldS words width (b.drop i) out p).2, (foldS words width (b.drop i) out p).1, ()), ())
  | 0, i, out, p, _, hk, _, _ => absurd hk (Nat.not_lt_zero _)
  | k + 1, i, out, p, hi, hk, h, hp => by
    rcases Nat.lt_or_ge i b.length with c | c
    · have S := fold_step k0 words width b i out p hb c h hp hk0
      have L := stepS_len words width b[i] out p i h hp
      rw [drop_int c, foldS]
      exact (loopN_inl S).trans (fold_loop k0 words width b hb hk0 k (i + 1) _ _ c (by omega) L.1 L.2)
    · have : i = b.length := Nat.le_antisymm hi c
      subst this
      refine loopN_inr ?_
      dsimp only
      unfold F10.go250
      simp only [Int.lt_irrefl, decide_false, cond_false, List.drop_length]
      rfl
theorem foldS_len (words : Bool) (width : Int) : ∀ (l out p : List Int) (i : Nat), out.length + 2 * p.length ≤ 2 * i → p.length ≤ i → (foldS words width l out p).1.length + 2 * (foldS words width l out p).2.length ≤ 2 * (i + l.length)
  | [], out, p, i, h, hp => by simpa [foldS] using h
  | c :: l, out, p, i, h, hp => by
    have L := stepS_len words width c out p i h hp
    have := foldS_len words width l _ _ (i + 1) L.1 L.2
    rw [foldS, List.length_cons]
    omega
theorem F10_eq (k : Nat) (words : Bool) (width : Int) (b : List Int) (hb : b.length ≤ 1048576) (hk : b.length + 2 ≤ k) :
    F10.go k b width words = bif decide (width < 1) then some (.inl ((((), 22, ()), ()), (), ())) else some (.inr ((((), 0, ()), ()), ((foldS words width b [] []).1 ++ (foldS words width b [] []).2, ()), ())) := by
  have L : F10.l_250 k ((0, (), (), words, 0, width, b, ↑b.length, ()), ([], [], ()), ()) = _ := fold_loop k words width b hb hk k 0 [] [] (Nat.zero_le _) (by omega) (by simp) (by simp)
  rw [List.drop_zero] at L
  have hl := foldS_len words width b [] [] 0 (by simp) (by simp)
  have r0 : (Value.int IntKind.u8 0).cells.size.beq 1 = true := rfl
  have e1 : (((foldS words width b [] []).1 ++ (foldS words width b [] []).2).length * 1).ble 140737488355328 = true := Nat.ble_eq_true_of_le (by simp; omega)
  have e2 : ((foldS words width b [] []).1 ++ (foldS words width b [] []).2).length.ble 9223372036854775807 = true := Nat.ble_eq_true_of_le (by simp; omega)
  unfold F10.go
  cases decide (width < 1)
  · simp only [cond_false, L, Option.bind_some, r0, app_eq, e1, e2, cond_true, Bool.and_self, Bool.true_and, Bool.and_true]
  · rfl
end Go.Proofs.Try.S

namespace Go.Proofs.Try.S
open Go Go.Ev
/-! the reference's answer, over lists -/
def linesF : List Int → List Int → List (List Int) × Bool
  | [], line => bif line.isEmpty then ([], true) else ([line], false)
  | c :: r, line => bif c == 10 then (line :: (linesF r []).1, (linesF r []).2) else linesF r (line ++ [c])
def refAll (words : Bool) (width : Int) (ended : Bool) : List (List Int) → List Int → List Int
  | [], out => out
  | [l], out => (foldS words width l out []).1 ++ (foldS words width l out []).2 ++ (bif ended then [10] else [])
  | l :: l' :: ls, out => refAll words width ended (l' :: ls) ((foldS words width l out []).1 ++ (foldS words width l out []).2 ++ [10])
theorem foldS_append (words : Bool) (width : Int) : ∀ (a : List Int) (c : Int) (out p : List Int), foldS words width (a ++ [c]) out p = stepS words width c (foldS words width a out p).1 (foldS words width a out p).2
  | [], c, out, p => rfl
  | d :: a, c, out, p => foldS_append words width a c _ _
theorem linesF_nil : ∀ (r line : List Int), (linesF r line).1 = [] → r = [] ∧ line = []
  | [], line, h => by
    unfold linesF at h
    cases line with
    | nil => exact ⟨rfl, rfl⟩
    | cons a l => cases h
  | c :: r, line, h => by
    unfold linesF at h
    cases e : c == 10 <;> rw [e] at h
    · have := linesF_nil r (line ++ [c]) h
      simp at this
    · cases h
theorem fold_ref (words : Bool) (width : Int) : ∀ (b line out : List Int), (foldS words width b (foldS words width line out []).1 (foldS words width line out []).2).1 ++ (foldS words width b (foldS words width line out []).1 (foldS words width line out []).2).2 =
    refAll words width (linesF b line).2 (linesF b line).1 out
  | [], line, out => by
    unfold linesF
    cases line with
    | nil => simp [foldS, refAll]
    | cons a l => simp [foldS, refAll]
  | c :: b, line, out => by
    unfold linesF
    rw [foldS]
    cases e : c == 10
    · have h1 := foldS_append words width line c out []
      rw [← h1]
      simp only [cond_false]
      exact fold_ref words width b (line ++ [c]) out
    · have hs : stepS words width c (foldS words width line out []).1 (foldS words width line out []).2 = ((foldS words width line out []).1 ++ (foldS words width line out []).2 ++ [10], []) := by
        unfold stepS; rw [e]; rfl
      rw [hs]
      simp only [cond_true, Bool.and_self, Bool.true_and, Bool.and_true]
      have ih := fold_ref words width b [] ((foldS words width line out []).1 ++ (foldS words width line out []).2 ++ [10])
      rw [foldS] at ih
      rw [ih]
      cases hr : (linesF b []).1 with
      | nil =>
        obtain ⟨hb, _⟩ := linesF_nil b [] hr
        subst hb
        simp [linesF, refAll]
      | cons l ls => rfl
end Go.Proofs.Try.S

namespace Go.Proofs.Try.S
open Go Go.Ev
theorem F51_eq (k a : Nat) (c : Int) (h : a ≤ 100000000) : F51.go k (a : Int) c = some ((((wideN a c : Nat) : Int), ()), (), ()) := by
  have e2 : (a : Int).tdiv 8 = ((a / 8 : Nat) : Int) := rfl
  have e3 : IntKind.i64.wrap (((a / 8 : Nat) : Int) * 8) = ((a / 8 : Nat) : Int) * 8 := wrap_id (by omega) (by omega)
  have e1 : IntKind.i64.wrap (((a / 8 : Nat) : Int) * 8 + 8) = ((a + 8 - a % 8 : Nat) : Int) := by rw [wrap_id (by omega) (by omega)]; omega
  have e4 : IntKind.i64.wrap ((a : Int) - 1) = (a : Int) - 1 := wrap_id (by omega) (by omega)
  have e5 : IntKind.i64.wrap ((a : Int) + 1) = ((a + 1 : Nat) : Int) := by rw [wrap_id (by omega) (by omega)]; rfl
  unfold F51.go wideN
  cases c == 9
  · cases c == 8
    · cases c == 13
      · simp only [cond_false, e5]
      · rfl
    · simp only [cond_false, cond_true, Bool.and_self, Bool.true_and, Bool.and_true, e4]
      by_cases h0 : a = 0
      · subst h0; rfl
      · have : (a : Int) > 0 := by omega
        simp only [this, decide_true, cond_true, Bool.and_self, Bool.true_and, Bool.and_true]
        congr 3
        omega
  · have e6 : IntKind.i64.wrap ((a / 8 : Nat) : Int) = ((a / 8 : Nat) : Int) := wrap_id (by omega) (by omega)
    simp only [cond_true, Bool.and_self, Bool.true_and, Bool.and_true, e2, e6, e3, e1]
theorem F50l (k0 : Nat) (l : List Int) (hl : l.length ≤ 4000000) : ∀ (k i a : Nat), i ≤ l.length → l.length - i < k → a ≤ 8 * i →
    loopN (F50.s58 k0) k (F50.i58 i a l.length l) = some (F50.r58 (colFrom a (l.drop i) : Nat) l)
  | 0, i, a, h, hk, _ => absurd hk (Nat.not_lt_zero _)
  | k + 1, i, a, h, hk, ha => by
    rcases Nat.lt_or_ge i l.length with c | c
    · have h0 : (i : Int) < (l.length : Int) := by omega
      have h0' : (0 : Int) ≤ (i : Int) := by omega
      have s : F50.s58 k0 (F50.i58 i a l.length l) = some (.inl (F50.i58 (i + 1 : Nat) (wideN a l[i] : Nat) l.length l)) := by
        unfold F50.s58 F50.go58
        simp only [h0, h0', decide_true, cond_true, Bool.and_self, Bool.true_and, Bool.and_true, Int.toNat_natCast, getD_in c, F51_eq k0 a _ (by omega), Option.bind_some, wrap_id (n := (i : Int) + 1) (by omega) (by omega)]
        rfl
      rw [drop_int c, colFrom]
      have := wideN_le a l[i]
      exact (loopN_inl s).trans (F50l k0 l hl k (i + 1) _ c (by omega) (by omega))
    · have : i = l.length := Nat.le_antisymm h c
      subst this
      refine loopN_inr ?_
      unfold F50.s58 F50.go58
      simp only [Int.lt_irrefl, decide_false, cond_false, List.drop_length]
      rfl
theorem F50_eq (k : Nat) (l : List Int) (hl : l.length ≤ 4000000) (hk : l.length < k) : F50.go k l = some ((((colN l : Nat) : Int), ()), (l, ()), ()) := by
  have L : F50.l_58 k ((0, 0, (), ↑l.length, ()), (l, ()), ()) = _ := F50l k l hl k 0 0 (Nat.zero_le _) (by omega) (Nat.zero_le _)
  unfold F50.go
  rw [L]; rfl
/-! lines -/
def lineA (l : List Int) : AV := .ro false (.I .u8 l)
def linesA : List Int → List (List Int) → List Int → List (List Int) × List Int
  | [], ls, line => (ls, line)
  | c :: r, ls, line => bif c == 10 then linesA r (ls ++ [line]) [] else linesA r ls (line ++ [c])
theorem linesA_F : ∀ (b : List Int) (ls : List (List Int)) (line : List Int), ls ++ (linesF b line).1 = (bif (linesA b ls line).2.isEmpty then (linesA b ls line).1 else (linesA b ls line).1 ++ [(linesA b ls line).2]) ∧ (linesF b line).2 = (linesA b ls line).2.isEmpty
  | [], ls, line => by
    unfold linesF linesA
    cases line <;> simp
  | c :: r, ls, line => by
    unfold linesF linesA
    cases c == 10
    · simp only [cond_false]; exact linesA_F r ls (line ++ [c])
    · simp only [cond_true, Bool.and_self, Bool.true_and, Bool.and_true]
      have := linesA_F r (ls ++ [line]) []
      rw [List.append_assoc] at this
      exact this
theorem F16l (k0 : Nat) (b : List Int) (hb : b.length ≤ 1048576) : ∀ (k i : Nat) (ls : List (List Int)) (line : List Int), i ≤ b.length → b.length - i < k → ls.length ≤ i → line.length ≤ i →
    loopN (fun x => F16.go122 k0 x.fst.fst x.fst.snd.snd.snd.fst x.fst.snd.snd.snd.snd.fst x.fst.snd.snd.snd.snd.snd.fst x.snd.fst.fst x.snd.fst.snd.fst) k
      (((i : Int), (), (), b, !line.isEmpty, (b.length : Int), ()), (line, ls.map lineA, ()), ()) =
    some ((!(linesA (b.drop i) ls line).2.isEmpty, (), (), ()), ((linesA (b.drop i) ls line).2, (linesA (b.drop i) ls line).1.map lineA, ()), ())
  | 0, i, ls, line, _, hk, _, _ => absurd hk (Nat.not_lt_zero _)
  | k + 1, i, ls, line, hi, hk, h1, h2 => by
    rcases Nat.lt_or_ge i b.length with c | c
    · have h0 : (i : Int) < (b.length : Int) := by omega
      have h0' : (0 : Int) ≤ (i : Int) := by omega
      have hw : IntKind.i64.wrap ((i : Int) + 1) = ((i + 1 : Nat) : Int) := by rw [wrap_id (by omega) (by omega)]; rfl
      rw [drop_int c, linesA]
      cases e : b[i] == 10
      · have r0 : (Value.int IntKind.u8 0).cells.size.beq 1 = true := rfl
        have q1 : ((line ++ [b[i]]).length * 1).ble 140737488355328 = true := Nat.ble_eq_true_of_le (by simp; omega)
        have q2 : (line ++ [b[i]]).length.ble 9223372036854775807 = true := Nat.ble_eq_true_of_le (by simp; omega)
        have q1' : ((line ++ [b[i]]).length * 1).ble 140737488355328 = true := q1
        have q2' : (line ++ [b[i]]).length.ble 9223372036854775807 = true := q2
        have ne : (line ++ [b[i]]).isEmpty = false := by cases line <;> rfl
        have s : F16.go122 k0 i b (!line.isEmpty) b.length line (ls.map lineA) = some (.inl ((((i + 1 : Nat) : Int), (), (), b, !(line ++ [b[i]]).isEmpty, (b.length : Int), ()), (line ++ [b[i]], ls.map lineA, ()), ())) := by
          unfold F16.go122
          simp only [h0, h0', decide_true, cond_true, Bool.and_self, Bool.true_and, Bool.and_true, Int.toNat_natCast, getD_in c, e, cond_false, r0, q1', q2', hw, ne]
          rfl
        exact (loopN_inl s).trans (F16l k0 b hb k (i + 1) ls (line ++ [b[i]]) c (by omega) (by omega) (by simp; omega))
      · have r0 : (Value.slice none 0 0).cells.size.beq 1 = true := rfl
        have e1 : (ls.map lineA ++ [lineA line]).length = ls.length + 1 := by simp
        have q1 : ((ls.map lineA ++ [lineA line]).length * 24).ble 140737488355328 = true := Nat.ble_eq_true_of_le (by rw [e1]; omega)
        have q2 : (ls.map lineA ++ [lineA line]).length.ble 9223372036854775807 = true := Nat.ble_eq_true_of_le (by rw [e1]; omega)
        have q1' : ((ls.map lineA ++ [AV.ro false (Lst.I IntKind.u8 line)]).length * 24).ble 140737488355328 = true := q1
        have q2' : (ls.map lineA ++ [AV.ro false (Lst.I IntKind.u8 line)]).length.ble 9223372036854775807 = true := q2
        have s : F16.go122 k0 i b (!line.isEmpty) b.length line (ls.map lineA) = some (.inl ((((i + 1 : Nat) : Int), (), (), b, !([] : List Int).isEmpty, (b.length : Int), ()), ([], (ls ++ [line]).map lineA, ()), ())) := by
          unfold F16.go122
          simp only [h0, h0', decide_true, cond_true, Bool.and_self, Bool.true_and, Bool.and_true, Int.toNat_natCast, getD_in c, e, r0, q1', q2', hw]
          rw [List.map_append]
          rfl
        exact (loopN_inl s).trans (F16l k0 b hb k (i + 1) (ls ++ [line]) [] c (by omega) (by simp; omega) (by simp))
    · have : i = b.length := Nat.le_antisymm hi c
      subst this
      refine loopN_inr ?_
      dsimp only
      unfold F16.go122
      simp only [Int.lt_irrefl, decide_false, cond_false, List.drop_length]
      rfl
theorem linesA_len : ∀ (b : List Int) (ls : List (List Int)) (line : List Int), (linesA b ls line).1.length ≤ ls.length + b.length
  | [], ls, line => by simp [linesA]
  | c :: r, ls, line => by
    unfold linesA
    cases c == 10
    · have := linesA_len r ls (line ++ [c]); simp only [cond_false, List.length_cons]; omega
    · have := linesA_len r (ls ++ [line]) []; simp at this; simp only [cond_true, Bool.and_self, Bool.true_and, Bool.and_true, List.length_cons]; omega
theorem F16_eq (k : Nat) (b : List Int) (hb : b.length ≤ 1048576) (hk : b.length < k) : F16.go k b = some ((((), (linesF b []).2, ()), ()), ((linesF b []).1.map lineA, ()), ()) := by
  have L : F16.l_122 k ((0, (), (), b, false, ↑b.length, ()), ([], [], ()), ()) = _ := F16l k b hb k 0 [] [] (Nat.zero_le _) (by omega) (Nat.zero_le _) (Nat.zero_le _)
  rw [List.drop_zero] at L
  have hl := linesA_len b [] []
  obtain ⟨g1, g2⟩ := linesA_F b [] []
  rw [List.nil_append] at g1
  rw [g1, g2]
  unfold F16.go
  rw [L]
  simp only [Option.bind_some]
  cases e : (linesA b [] []).2.isEmpty
  · have r0 : (Value.slice none 0 0).cells.size.beq 1 = true := rfl
    have e1 : ((linesA b [] []).1.map lineA ++ [lineA (linesA b [] []).2]).length = (linesA b [] []).1.length + 1 := by simp
    have q1 : (((linesA b [] []).1.map lineA ++ [lineA (linesA b [] []).2]).length * 24).ble 140737488355328 = true := Nat.ble_eq_true_of_le (by rw [e1]; simp at hl; omega)
    have q2 : ((linesA b [] []).1.map lineA ++ [lineA (linesA b [] []).2]).length.ble 9223372036854775807 = true := Nat.ble_eq_true_of_le (by rw [e1]; simp at hl; omega)
    have q1' : (((linesA b [] []).1.map lineA ++ [AV.ro false (Lst.I IntKind.u8 (linesA b [] []).2)]).length * 24).ble 140737488355328 = true := q1
    have q2' : ((linesA b [] []).1.map lineA ++ [AV.ro false (Lst.I IntKind.u8 (linesA b [] []).2)]).length.ble 9223372036854775807 = true := q2
    simp only [Bool.not_false, cond_true, Bool.and_self, Bool.true_and, Bool.and_true, r0, q1', q2', cond_false]
    rw [List.map_append]
    rfl
  · simp only [Bool.not_true, Bool.not_false, cond_false, cond_true, Bool.and_self, Bool.true_and, Bool.and_true]
end Go.Proofs.Try.S

namespace Go.Proofs.Try.S
open Go Go.Ev
def cutAt (words : Bool) (p : List Int) (n : Nat) : Nat := bif words && decide (0 < lastB p n) then lastB p n else p.length
theorem cutAt_zero (words : Bool) (p : List Int) : cutAt words p 0 = p.length := by
  unfold cutAt; cases words <;> rfl
theorem cutAt_all (words : Bool) (p : List Int) : cutAt words p p.length = cutN words p := rfl
theorem cutAt_succ (words : Bool) (p : List Int) (n : Nat) : cutAt words p (n + 1) = bif words && blankB (p.getD n 0) then n + 1 else cutAt words p n := by
  unfold cutAt
  rw [lastB]
  cases words
  · rfl
  · cases blankB (p.getD n 0)
    · rfl
    · simp
end Go.Proofs.Try.S

namespace Go.Proofs.Try.S
open Go Go.Ev
theorem ble1 {n : Nat} (h : n ≤ 8000000) : (Nat.ble (n * 1) 140737488355328 && Nat.ble n 9223372036854775807) = true := by
  rw [Nat.ble_eq_true_of_le (by omega), Nat.ble_eq_true_of_le (by omega)]; rfl
theorem cutAt_le (words : Bool) (p : List Int) (n : Nat) (h : n ≤ p.length) : cutAt words p n ≤ p.length := by
  unfold cutAt
  have := lastB_le p n
  cases words && decide (0 < lastB p n)
  · exact Nat.le_refl _
  · simp only [cond_true]; omega
theorem cut_loop (k0 : Nat) (words b2 : Bool) (x3 x4 x5 x6 x7 : Int) (line : List Int) (ended : Bool) (x10 x11 x12 x13 x14 x15 : Int) (p out : List Int) (ls : List AV) (hp : p.length ≤ 4000000) : ∀ (k i : Nat), i ≤ p.length → p.length - i < k →
    loopN (F11.s8402055722 k0) k (F11.i8402055722 i words b2 x3 x4 x5 x6 x7 line ended x10 x11 x12 x13 x14 x15 (cutAt words p i : Nat) p.length p ls out) =
      some (F11.r8402055722 words b2 x3 x4 x5 x6 x7 line ended x10 x11 x12 x13 x14 x15 (cutN words p : Nat) p ls out)
  | 0, i, _, h => absurd h (Nat.not_lt_zero _)
  | k + 1, i, hi, hk => by
    rcases Nat.lt_or_ge i p.length with c | c
    · have h0 : (i : Int) < (p.length : Int) := by omega
      have h0' : (0 : Int) ≤ (i : Int) := by omega
      have hw : IntKind.i64.wrap ((i : Int) + 1) = ((i + 1 : Nat) : Int) := by rw [wrap_id (by omega) (by omega)]; rfl
      have hg : p.getD i 0 = p[i] := getD_in c
      have s : F11.s8402055722 k0 (F11.i8402055722 i words b2 x3 x4 x5 x6 x7 line ended x10 x11 x12 x13 x14 x15 (cutAt words p i : Nat) p.length p ls out) =
          some (.inl (F11.i8402055722 (i + 1 : Nat) words b2 x3 x4 x5 x6 x7 line ended x10 x11 x12 x13 x14 x15 (cutAt words p (i + 1) : Nat) p.length p ls out)) := by
        rw [cutAt_succ, hg]
        unfold F11.s8402055722 F11.go8402055722 blankB
        simp only [h0, h0', decide_true, cond_true, Bool.and_self, Int.toNat_natCast, hg, hw]
        cases words
        · rfl
        · cases p[i] == 32
          · cases p[i] == 9 <;> rfl
          · rfl
      exact (loopN_inl s).trans (cut_loop k0 words b2 x3 x4 x5 x6 x7 line ended x10 x11 x12 x13 x14 x15 p out ls hp k (i + 1) c (by omega))
    · have : i = p.length := Nat.le_antisymm hi c
      subst this
      refine loopN_inr ?_
      unfold F11.s8402055722 F11.go8402055722
      simp only [Int.lt_irrefl, decide_false, cond_false]
      rfl
theorem while_step (k : Nat) (words : Bool) (width : Int) (line : List Int) (ended : Bool) (x4 x5 x6 x7 x8 c : Int) (p out : List Int) (ls : List AV) (hp : p.length ≤ 2000000) (ho : out.length + 2 * p.length ≤ 4000000) (hk : p.length + 1 ≤ k) :
    F11.s65641060 k (F11.i65641060 words width line ended x4 x5 x6 x7 x8 c p out ls) = bif decide (0 < colN p) && decide (width < ((wideN (colN p) c : Nat) : Int)) then
        some (.inl (F11.i65641060 words width line ended x4 x5 x6 x7 x8 c (p.drop (cutN words p)) (out ++ p.take (cutN words p) ++ [10]) ls))
      else some (.inr (F11.r65641060 words width line ended x4 x5 x6 x7 x8 c out ls p)) := by
  have hcol := colFrom_le p 0
  have hc : colN p ≤ 100000000 := by unfold colN; omega
  have hcut := cutN_le words p
  have hF := F50_eq k p (by omega) (by omega)
  unfold F11.s65641060 F11.go65641060
  simp only [hF, Option.bind_some]
  by_cases c1 : 0 < colN p
  · have d1 : ((colN p : Nat) : Int) > 0 := by omega
    simp only [d1, c1, decide_true, cond_true, Bool.true_and, F51_eq k (colN p) c hc, Option.bind_some]
    by_cases c2 : width < ((wideN (colN p) c : Nat) : Int)
    · have d2 : ((wideN (colN p) c : Nat) : Int) > width := c2
      have L : ∀ b2 x3 x4' x5' x6' x7' x10 x11 x12 x13 x14 x15, F11.l_8402055722 k (F11.i8402055722 0 words b2 x3 x4' x5' x6' x7' line ended x10 x11 x12 x13 x14 x15 p.length p.length p ls out) = some (F11.r8402055722 words b2 x3 x4' x5' x6' x7' line ended x10 x11 x12 x13 x14 x15 (cutN words p : Nat) p ls out) := by
        intro b2 x3 x4' x5' x6' x7' x10 x11 x12 x13 x14 x15
        have := cut_loop k words b2 x3 x4' x5' x6' x7' line ended x10 x11 x12 x13 x14 x15 p out ls (by omega) k 0 (Nat.zero_le _) (by omega)
        rw [cutAt_zero] at this
        exact this
      have z1 : (0 : Int) ≤ ((cutN words p : Nat) : Int) := by omega
      have z2 : ((cutN words p : Nat) : Int) ≤ (p.length : Int) := by omega
      have e0 : (out ++ p.take (cutN words p)).length ≤ 8000000 := by simp; omega
      have e1 : (out ++ p.take (cutN words p) ++ [10]).length ≤ 8000000 := by simp; omega
      have e3 : (p.drop (cutN words p)).take (p.length - cutN words p) = p.drop (cutN words p) := by rw [← List.length_drop, List.take_length]
      have e2 : (p.drop (cutN words p)).length ≤ 8000000 := by simp; omega
      simp only [d2, c2, decide_true, cond_true]
      rw [L]
      simp only [Option.bind_some, z1, z2, decide_true, Bool.and_self, cond_true, Int.toNat_natCast, Nat.sub_zero, ble1 e0, ble1 e1, e3, ble1 e2]
    · have d2 : ¬ ((wideN (colN p) c : Nat) : Int) > width := c2
      simp only [d2, c2, decide_false, cond_false]
  · have d1 : ¬ ((colN p : Nat) : Int) > 0 := by omega
    simp only [d1, c1, decide_false, cond_false, Bool.false_and]
theorem while_loop (k0 : Nat) (words : Bool) (width : Int) (line : List Int) (ended : Bool) (x4 x5 x6 x7 x8 c : Int) (ls : List AV) : ∀ (n k : Nat) (out p : List Int), p.length ≤ n → n < k → p.length ≤ 2000000 → out.length + 2 * p.length ≤ 4000000 → p.length + 1 ≤ k0 →
    loopN (F11.s65641060 k0) k (F11.i65641060 words width line ended x4 x5 x6 x7 x8 c p out ls) =
    some (F11.r65641060 words width line ended x4 x5 x6 x7 x8 c (innerS words width c n out p).1 ls (innerS words width c n out p).2)
  | n, 0, out, p, _, hk, _, _, _ => absurd hk (Nat.not_lt_zero _)
  | 0, k + 1, out, p, h, hk, hp, ho, hk0 => by
    have : p = [] := List.length_eq_zero_iff.1 (Nat.le_zero.1 h)
    subst this
    exact loopN_inr (while_step k0 words width line ended x4 x5 x6 x7 x8 c [] out ls hp ho hk0)
  | n + 1, k + 1, out, p, h, hk, hp, ho, hk0 => by
    have S := while_step k0 words width line ended x4 x5 x6 x7 x8 c p out ls hp ho hk0
    unfold innerS
    cases e : decide (0 < colN p) && decide (width < ((wideN (colN p) c : Nat) : Int)) <;> rw [e] at S
    · exact loopN_inr S
    · rw [Bool.and_eq_true, decide_eq_true_eq] at e
      have h1 := cutN_pos words p e.1
      have h2 := cutN_le words p
      have e1 : (out ++ p.take (cutN words p) ++ [10]).length = out.length + cutN words p + 1 := by simp; omega
      have e2 : (p.drop (cutN words p)).length = p.length - cutN words p := List.length_drop
      exact (loopN_inl S).trans (while_loop k0 words width line ended x4 x5 x6 x7 x8 c ls n k _ _ (by omega) (by omega) (by omega) (by omega) (by omega))
/-- a line has no line feed -/
def flat (l : List Int) : Prop := ∀ c ∈ l, (c == 10) = false
theorem line_loop (k0 : Nat) (words : Bool) (width : Int) (line : List Int) (ended : Bool) (x5 x6 x7 : Int) (ls : List AV) (hf : flat line) (o0 : Nat) (ho0 : o0 + 2 * line.length ≤ 4000000) (hk0 : line.length + 2 ≤ k0) : ∀ (k i : Nat) (out p : List Int), i ≤ line.length → line.length - i < k → out.length + 2 * p.length ≤ o0 + 2 * i → p.length ≤ i →
    loopN (F11.s256410 k0) k (F11.i256410 words i width line ended x5 x6 x7 line.length p out ls) =
    some (F11.r256410 words width ended x5 x6 x7 ls (foldS words width (line.drop i) out p).2 (foldS words width (line.drop i) out p).1)
  | 0, i, out, p, _, hk, _, _ => absurd hk (Nat.not_lt_zero _)
  | k + 1, i, out, p, hi, hk, h, hp => by
    rcases Nat.lt_or_ge i line.length with c | c
    · have h0 : (i : Int) < (line.length : Int) := by omega
      have h0' : (0 : Int) ≤ (i : Int) := by omega
      have hw : IntKind.i64.wrap ((i : Int) + 1) = ((i + 1 : Nat) : Int) := by rw [wrap_id (by omega) (by omega)]; rfl
      have hin := innerS_len words width line[i] p.length out p
      have e10 := hf line[i] (List.getElem_mem c)
      have W : F11.l_65641060 k0 (F11.i65641060 words width line ended x5 x6 x7 line.length i line[i] p out ls) = _ := while_loop k0 words width line ended x5 x6 x7 line.length i line[i] ls p.length k0 out p (Nat.le_refl _) (by omega) (by omega) (by omega) (by omega)
      have el : ((innerS words width line[i] p.length out p).2 ++ [line[i]]).length ≤ 8000000 := by simp; omega
      have s : F11.s256410 k0 (F11.i256410 words i width line ended x5 x6 x7 line.length p out ls) = some (.inl (F11.i256410 words (i + 1 : Nat) width line ended x5 x6 x7 line.length (stepS words width line[i] out p).2 (stepS words width line[i] out p).1 ls)) := by
        unfold F11.s256410 F11.go256410 stepS
        simp only [h0, h0', decide_true, cond_true, Bool.and_self, Int.toNat_natCast, getD_in c, e10, cond_false]
        rw [W]
        simp only [Option.bind_some, ble1 el, cond_true, hw]
      have h1 : (stepS words width line[i] out p).1.length + 2 * (stepS words width line[i] out p).2.length ≤ o0 + 2 * (i + 1) := by
        unfold stepS; rw [e10]; simp only [cond_false, List.length_append, List.length_cons, List.length_nil]; omega
      have h2 : (stepS words width line[i] out p).2.length ≤ i + 1 := by
        unfold stepS; rw [e10]; simp only [cond_false, List.length_append, List.length_cons, List.length_nil]; omega
      rw [drop_int c, foldS]
      exact (loopN_inl s).trans (line_loop k0 words width line ended x5 x6 x7 ls hf o0 ho0 hk0 k (i + 1) _ _ c (by omega) h1 h2)
    · have : i = line.length := Nat.le_antisymm hi c
      subst this
      refine loopN_inr ?_
      unfold F11.s256410 F11.go256410
      simp only [Int.lt_irrefl, decide_false, cond_false, List.drop_length]
      rfl
theorem foldS_len2 (words : Bool) (width : Int) : ∀ (l out p : List Int), (foldS words width l out p).1.length + 2 * (foldS words width l out p).2.length ≤ out.length + 2 * p.length + 2 * l.length
  | [], out, p => by simp [foldS]
  | c :: l, out, p => by
    have ih := foldS_len2 words width l (stepS words width c out p).1 (stepS words width c out p).2
    have h : (stepS words width c out p).1.length + 2 * (stepS words width c out p).2.length ≤ out.length + 2 * p.length + 2 := by
      have hin := innerS_len words width c p.length out p
      unfold stepS
      cases c == 10
      · simp only [cond_false, List.length_append, List.length_cons, List.length_nil]; omega
      · simp only [cond_true, List.length_append, List.length_cons, List.length_nil]; omega
    rw [foldS, List.length_cons]; omega
def wt : List (List Int) → Nat
  | [] => 0
  | l :: r => l.length + 1 + wt r
theorem wt_mem : ∀ (L : List (List Int)) (i : Nat) (h : i < L.length), wt (L.drop i) = L[i].length + 1 + wt (L.drop (i + 1))
  | L, i, h => by rw [List.drop_eq_getElem_cons h, wt]
theorem wt_drop : ∀ (L : List (List Int)) (i : Nat), wt (L.drop i) ≤ wt L
  | [], i => by simp
  | l :: r, 0 => Nat.le_refl _
  | l :: r, i + 1 => by have := wt_drop r i; simp only [List.drop_succ_cons, wt]; omega
theorem wt_length : ∀ (L : List (List Int)), L.length ≤ wt L
  | [] => Nat.le_refl _
  | l :: r => by have := wt_length r; simp only [List.length_cons, wt]; omega
theorem linesF_flat : ∀ (b line : List Int), flat line → ∀ l ∈ (linesF b line).1, flat l
  | [], line, hl, l, h => by
    unfold linesF at h
    cases e : line.isEmpty <;> rw [e] at h
    · simp only [cond_false, List.mem_singleton] at h; subst h; exact hl
    · simp only [cond_true] at h; cases h
  | c :: r, line, hl, l, h => by
    unfold linesF at h
    cases e : c == 10 <;> rw [e] at h
    · refine linesF_flat r (line ++ [c]) ?_ l h
      intro d hd
      rcases List.mem_append.1 hd with hd | hd
      · exact hl d hd
      · rw [List.mem_singleton] at hd; subst hd; exact e
    · simp only [cond_true, List.mem_cons] at h
      rcases h with h | h
      · subst h; exact hl
      · exact linesF_flat r [] (fun _ h => by cases h) l h
theorem linesF_wt : ∀ (b line : List Int), wt (linesF b line).1 ≤ line.length + b.length + 1
  | [], line => by
    unfold linesF
    cases line.isEmpty <;> simp [wt]
  | c :: r, line => by
    unfold linesF
    cases c == 10
    · have := linesF_wt r (line ++ [c]); simp only [List.length_append, List.length_cons, List.length_nil] at this; simp only [cond_false, List.length_cons]; omega
    · have := linesF_wt r []; simp only [List.length_nil] at this; simp only [cond_true, List.length_cons, wt]; omega
theorem lines_loop (k0 : Nat) (words : Bool) (width : Int) (ended : Bool) (L : List (List Int)) (hf : ∀ l ∈ L, flat l) (hL : wt L ≤ 1100000) (hk0 : wt L + 2 ≤ k0) : ∀ (k i : Nat) (out : List Int), i ≤ L.length → L.length - i < k → out.length + 2 * wt (L.drop i) ≤ 2200000 →
    loopN (F11.s250 k0) k (F11.i250 words width i ended L.length out (L.map lineA)) = some (F11.r250 (refAll words width ended (L.drop i) out))
  | 0, i, out, _, hk, _ => absurd hk (Nat.not_lt_zero _)
  | k + 1, i, out, hi, hk, ho => by
    rcases Nat.lt_or_ge i L.length with c | c
    · have hwl := wt_length L
      have h0 : (i : Int) < (L.length : Int) := by omega
      have h0' : (0 : Int) ≤ (i : Int) := by omega
      have h0'' : (i : Int) < ((L.map lineA).length : Int) := by rw [List.length_map]; exact h0
      have hw : IntKind.i64.wrap ((i : Int) + 1) = ((i + 1 : Nat) : Int) := by rw [wrap_id (by omega) (by omega)]; rfl
      have hwt := wt_mem L i c
      have hd1 := wt_drop L i
      have hg : AV.ints! ((L.map lineA).getD i (AV.tuple [])) = L[i] := by rw [getD_in (by rw [List.length_map]; exact c), List.getElem_map]; rfl
      have W : ∀ x5 x6 x7, F11.l_256410 k0 (F11.i256410 words 0 width L[i] ended x5 x6 x7 L[i].length [] out (L.map lineA)) = some (F11.r256410 words width ended x5 x6 x7 (L.map lineA) (foldS words width L[i] out []).2 (foldS words width L[i] out []).1) := by
        intro x5 x6 x7
        exact line_loop k0 words width L[i] ended x5 x6 x7 (L.map lineA) (hf _ (List.getElem_mem c)) out.length (by omega) (by omega) k0 0 out [] (Nat.zero_le _) (by omega) (by simp) (by simp)
      have hl := foldS_len2 words width L[i] out []
      simp only [List.length_nil] at hl
      have b1 : ((foldS words width L[i] out []).1 ++ (foldS words width L[i] out []).2).length ≤ 8000000 := by simp; omega
      have b2 : ((foldS words width L[i] out []).1 ++ (foldS words width L[i] out []).2 ++ [10]).length ≤ 8000000 := by simp; omega
      have hm : IntKind.i64.wrap (((L.map lineA).length : Int) - 1) = (L.length : Int) - 1 := by rw [List.length_map, wrap_id (by omega) (by omega)]
      rw [List.drop_eq_getElem_cons c]
      have step : ∀ out', F11.s250 k0 (F11.i250 words width i ended L.length out (L.map lineA)) = some (.inl (F11.i250 words width (i + 1 : Nat) ended L.length out' (L.map lineA))) → refAll words width ended (L[i] :: L.drop (i + 1)) out = refAll words width ended (L.drop (i + 1)) out' → out'.length + 2 * wt (L.drop (i + 1)) ≤ 2200000 →
          loopN (F11.s250 k0) (k + 1) (F11.i250 words width i ended L.length out (L.map lineA)) = some (F11.r250 (refAll words width ended (L[i] :: L.drop (i + 1)) out)) := by
        intro out' hs hr hb
        rw [hr]
        exact (loopN_inl hs).trans (lines_loop k0 words width ended L hf hL hk0 k (i + 1) out' c (by omega) hb)
      by_cases last : i + 1 < L.length
      · have d1 : (i : Int) < (L.length : Int) - 1 := by omega
        refine step ((foldS words width L[i] out []).1 ++ (foldS words width L[i] out []).2 ++ [10]) ?_ ?_ ?_
        · unfold F11.s250 F11.go250
          simp only [h0, h0', h0'', decide_true, cond_true, Bool.and_self, Int.toNat_natCast, hg]
          rw [W]
          simp only [Option.bind_some, ble1 b1, ble1 b2, cond_true, hm, d1, decide_true, hw]
        · rw [List.drop_eq_getElem_cons last]; rfl
        · simp only [List.length_append, List.length_cons, List.length_nil]; omega
      · have d1 : ¬ (i : Int) < (L.length : Int) - 1 := by omega
        have hnil : L.drop (i + 1) = [] := List.drop_eq_nil_of_le (by omega)
        cases ended with
        | true =>
          refine step ((foldS words width L[i] out []).1 ++ (foldS words width L[i] out []).2 ++ [10]) ?_ ?_ ?_
          · unfold F11.s250 F11.go250
            simp only [h0, h0', h0'', decide_true, cond_true, Bool.and_self, Int.toNat_natCast, hg]
            rw [W]
            simp only [Option.bind_some, ble1 b1, ble1 b2, cond_true, hm, d1, decide_false, cond_false, hw]
          · rw [hnil]; rfl
          · simp only [List.length_append, List.length_cons, List.length_nil]; omega
        | false =>
          refine step ((foldS words width L[i] out []).1 ++ (foldS words width L[i] out []).2) ?_ ?_ ?_
          · unfold F11.s250 F11.go250
            simp only [h0, h0', h0'', decide_true, cond_true, Bool.and_self, Int.toNat_natCast, hg]
            rw [W]
            simp only [Option.bind_some, ble1 b1, cond_true, hm, d1, decide_false, cond_false, hw]
          · rw [hnil]; simp [refAll]
          · simp only [List.length_append, List.length_cons, List.length_nil]; omega
    · have : i = L.length := Nat.le_antisymm hi c
      subst this
      refine loopN_inr ?_
      unfold F11.s250 F11.go250
      simp only [Int.lt_irrefl, decide_false, cond_false, List.drop_length]
      rfl
theorem F11_eq (k : Nat) (words : Bool) (width : Int) (b : List Int) (hb : b.length ≤ 1048576) (hk : b.length + 4 ≤ k) :
    F11.go k b width words = bif decide (width < 1) then some (F11.r_0 22) else some (F11.r_1 0 ((foldS words width b [] []).1 ++ (foldS words width b [] []).2)) := by
  have h16 := F16_eq k b hb (by omega)
  have hw := linesF_wt b []
  simp only [List.length_nil] at hw
  have hr := fold_ref words width b [] []
  unfold F11.go
  cases decide (width < 1)
  · simp only [cond_false, h16, Option.bind_some, List.length_map]
    have L : F11.l_250 k (F11.i250 words width 0 (linesF b []).2 (linesF b []).1.length [] ((linesF b []).1.map lineA)) = _ :=
      lines_loop k words width (linesF b []).2 (linesF b []).1 (linesF_flat b [] (fun _ h => by cases h)) (by omega) (by omega) k 0 [] (Nat.zero_le _) (by have := wt_length (linesF b []).1; omega) (by simp only [List.drop_zero, List.length_nil]; omega)
    rw [L]
    simp only [foldS] at hr
    simp only [Option.bind_some, List.drop_zero, ← hr]
  · rfl
theorem F12_eq (k : Nat) (a b : List Int) (h : a = b) : F12.go k a b = some ((true, ()), (), ()) := by
  subst h
  unfold F12.go F52.go
  simp only [Option.bind_some, beq_self_eq_true]
theorem F13_eq (k : Nat) : F13.go (k + 200) = some ((true, ()), (), ()) := by kernel_rfl
theorem textFolds (b : List Int) (width : Int) (words : Bool) (hb : b.length ≤ 1048576) : ∃ k, F3.go k b width words = some ((true, ()), (), ()) := by
  refine ⟨b.length + 4 + 200, ?_⟩
  have h1 := F10_eq (b.length + 4 + 200) words width b hb (by omega)
  have h2 := F11_eq (b.length + 4 + 200) words width b hb (by omega)
  have h3 := F13_eq (b.length + 4)
  unfold F3.go
  rw [h1, h2]
  cases decide (width < 1)
  · simp only [cond_false, Option.bind_some, Sum.elim_inr, beq_self_eq_true, cond_true, F12_eq _ _ _ rfl, h3]
  · simp only [cond_true, Option.bind_some, Sum.elim_inl, beq_self_eq_true, cond_true, F12_eq _ _ _ rfl, h3]
end Go.Proofs.Try.S

namespace Go.Proofs.Try.S
open Go Go.Ev
/-! pieces: lines with their line feeds -/
theorem ble24 {n : Nat} (h : n ≤ 8000000) : (Nat.ble (n * 24) 140737488355328 && Nat.ble n 9223372036854775807) = true := by
  rw [Nat.ble_eq_true_of_le (by omega), Nat.ble_eq_true_of_le (by omega)]; rfl
def isB (l : List Int) : Prop := ∀ n ∈ l, 0 ≤ n ∧ n ≤ 255
theorem isB_of_wf {l : List Int} (h : ∀ n ∈ l, (Lit.int .u8 n).wf = true) : isB l := by
  intro n hn
  have := h n hn
  have h2 : (IntKind.u8.min ≤ n ∧ n ≤ IntKind.u8.max) := by
    simpa only [Lit.wf, Bool.and_eq_true, decide_eq_true_eq] using this
  exact h2
theorem isB_drop {l : List Int} (h : isB l) (n : Nat) : isB (l.drop n) := fun x hx => h x (List.mem_of_mem_drop hx)
theorem isB_take {l : List Int} (h : isB l) (n : Nat) : isB (l.take n) := fun x hx => h x (List.mem_of_mem_take hx)
def posI : List Int → Int
  | [] => -1
  | c :: r => bif c == 10 then 0 else bif posI r == -1 then -1 else posI r + 1
def cutLen : List Int → Nat
  | [] => 0
  | c :: r => bif c == 10 then 1 else cutLen r + 1
theorem cutLen_le : ∀ l : List Int, cutLen l ≤ l.length
  | [] => Nat.le_refl _
  | c :: r => by
    have := cutLen_le r
    unfold cutLen
    cases c == 10 <;> simp only [cond_true, cond_false, List.length_cons] <;> omega
theorem cutLen_pos : ∀ l : List Int, l ≠ [] → 0 < cutLen l
  | [], h => absurd rfl h
  | c :: r, _ => by
    unfold cutLen
    cases c == 10 <;> simp only [cond_true, cond_false] <;> omega
theorem pos_cut : ∀ l : List Int, (posI l = -1 ∧ cutLen l = l.length) ∨ (0 ≤ posI l ∧ posI l + 1 = (cutLen l : Int))
  | [] => .inl ⟨rfl, rfl⟩
  | c :: r => by
    unfold posI cutLen
    cases c == 10
    · rcases pos_cut r with ⟨h1, h2⟩ | ⟨h1, h2⟩
      · left; rw [h1, h2]; exact ⟨rfl, rfl⟩
      · right
        have : (posI r == -1) = false := by rw [beq_eq_false_iff_ne]; omega
        rw [this]; simp only [cond_false]; omega
    · right; exact ⟨Int.le_refl _, rfl⟩
theorem ix_eq : ∀ l : List Int, isB l → ixS (strOf l) 10 = posI l
  | [], _ => rfl
  | c :: r, h => by
    have ih := ix_eq r (fun x hx => h x (List.mem_cons_of_mem _ hx))
    have hc := h c (List.mem_cons_self ..)
    have e : (UInt8.ofNat c.toNat == (10 : Int).toNat.toUInt8) = (c == 10) := by
      have h1 : (10 : Int).toNat.toUInt8 = (10 : UInt8) := rfl
      rw [h1, Bool.eq_iff_iff, beq_iff_eq, beq_iff_eq]
      constructor
      · intro e
        have : (UInt8.ofNat c.toNat).toNat = (10 : UInt8).toNat := by rw [e]
        rw [UInt8.toNat_ofNat'] at this
        have h3 : (10 : UInt8).toNat = 10 := rfl
        omega
      · intro e; subst e; rfl
    have h2 : ixS (strOf (c :: r)) 10 = if UInt8.ofNat c.toNat == (10 : Int).toNat.toUInt8 then 0 else if ixS (strOf r) 10 == -1 then -1 else ixS (strOf r) 10 + 1 := rfl
    rw [h2, e, ih, posI]
    cases c == 10
    · cases posI r == -1 <;> rfl
    · rfl
def piecesF : List Int → List Int → List (List Int)
  | [], line => bif line.isEmpty then [] else [line]
  | c :: r, line => bif c == 10 then (line ++ [c]) :: piecesF r [] else piecesF r (line ++ [c])
theorem piecesF_cons (c : Int) (r line : List Int) : piecesF (c :: r) line = bif c == 10 then (line ++ [c]) :: piecesF r [] else piecesF r (line ++ [c]) := rfl
theorem piecesF_cut : ∀ (l line : List Int), l ≠ [] → piecesF l line = (line ++ l.take (cutLen l)) :: piecesF (l.drop (cutLen l)) []
  | [], line, h => absurd rfl h
  | c :: r, line, _ => by
    rw [piecesF_cons, cutLen]
    cases c == 10
    · simp only [cond_false, List.take_succ_cons, List.drop_succ_cons]
      cases r with
      | nil => cases line <;> rfl
      | cons d r =>
        rw [piecesF_cut (d :: r) (line ++ [c]) (by simp)]
        simp only [List.append_assoc, List.singleton_append]
    · simp only [cond_true, List.take_succ_cons, List.take_zero, List.drop_succ_cons, List.drop_zero]
theorem piecesF_flat : ∀ (l line : List Int), (piecesF l line).flatten = line ++ l
  | [], line => by unfold piecesF; cases line <;> simp
  | c :: r, line => by
    unfold piecesF
    cases c == 10
    · simp only [cond_false]; rw [piecesF_flat r]; simp
    · simp only [cond_true, List.flatten_cons]; rw [piecesF_flat r]; simp
theorem piecesF_len : ∀ (l line : List Int), (piecesF l line).length ≤ line.length + l.length
  | [], line => by unfold piecesF; cases line <;> simp
  | c :: r, line => by
    unfold piecesF
    cases c == 10
    · have := piecesF_len r (line ++ [c]); simp only [cond_false, List.length_append, List.length_cons, List.length_nil] at *; omega
    · have := piecesF_len r []; simp only [cond_true, List.length_cons, List.length_nil] at *; omega
theorem F54l (k0 : Nat) : ∀ (k : Nat) (b : List Int) (P : List (List Int)), isB b → b.length < k → P.length + b.length ≤ 8000000 →
    loopN (F54.s28 k0) k (F54.i28 b (P.map lineA)) = some (F54.r28 ((P ++ piecesF b []).map lineA))
  | 0, b, P, _, h, _ => absurd h (Nat.not_lt_zero _)
  | k + 1, [], P, hB, hk, hP => by
    refine loopN_inr ?_
    unfold F54.s28 F54.go28
    simp only [piecesF, List.isEmpty_nil, cond_true, List.append_nil]
    rfl
  | k + 1, c :: r, P, hB, hk, hP => by
    generalize hb : c :: r = b at *
    have hne : b ≠ [] := by subst hb; simp
    have hpos : 0 < b.length := by subst hb; simp
    have d0 : ((b.length : Nat) : Int) > 0 := by omega
    have d1 : (0 : Int) ≤ ((b.length : Nat) : Int) := by omega
    have hcl := cutLen_le b
    have hcp := cutLen_pos b hne
    have hix := ix_eq b hB
    have e1 : (P.map lineA ++ [AV.ro false (Lst.I IntKind.u8 (b.take (cutLen b)))]).length ≤ 8000000 := by simp; omega
    have e2 : P.map lineA ++ [AV.ro false (Lst.I IntKind.u8 (b.take (cutLen b)))] = (P ++ [b.take (cutLen b)]).map lineA := by simp [lineA]
    have s : F54.s28 k0 (F54.i28 b (P.map lineA)) = some (.inl (F54.i28 (b.drop (cutLen b)) ((P ++ [b.take (cutLen b)]).map lineA))) := by
      unfold F54.s28 F54.go28 F81.go
      simp only [d0, decide_true, cond_true, Option.bind_some, hix]
      have e3 : ((P ++ [b.take (cutLen b)]).map lineA).length ≤ 8000000 := by rw [← e2]; exact e1
      rcases pos_cut b with ⟨h1, h2⟩ | ⟨h1, h2⟩
      · have w : (IntKind.i64.wrap (posI b + 1) == 0) = true := by rw [h1]; rfl
        rw [h2] at e2 e3
        simp only [w, cond_true, d1, Int.le_refl, decide_true, Bool.and_self, Int.toNat_natCast, e2, ble24 e3, h2]
      · have w0 : IntKind.i64.wrap (posI b + 1) = (cutLen b : Int) := by rw [h2, wrap_id (by omega) (by omega)]
        have w : (((cutLen b : Nat) : Int) == 0) = false := by rw [beq_eq_false_iff_ne]; omega
        have z1 : (0 : Int) ≤ ((cutLen b : Nat) : Int) := by omega
        have z2 : ((cutLen b : Nat) : Int) ≤ ((b.length : Nat) : Int) := by omega
        simp only [w0, w, cond_false, z1, z2, cond_true, decide_true, Bool.and_self, Int.toNat_natCast, e2, ble24 e3]
    have hl : (b.drop (cutLen b)).length = b.length - cutLen b := List.length_drop
    have ih := F54l k0 k (b.drop (cutLen b)) (P ++ [b.take (cutLen b)]) (isB_drop hB _) (by omega) (by simp; omega)
    rw [piecesF_cut b [] hne, List.nil_append]
    rw [List.append_assoc, List.singleton_append] at ih
    exact (loopN_inl s).trans ih
theorem F54_eq (k : Nat) (b : List Int) (hB : isB b) (hb : b.length ≤ 8000000) (hk : b.length < k) : F54.go k b = some (F54.r ((piecesF b []).map lineA)) := by
  have L : F54.l_28 k (F54.i28 b []) = _ := F54l k k b [] hB hk (by simpa using hb)
  unfold F54.go
  rw [L]; rfl
/-! the reference's pieces -/
def piecesOf (ended : Bool) : List (List Int) → List (List Int)
  | [] => []
  | [l] => [bif ended then l ++ [10] else l]
  | l :: l' :: r => (l ++ [10]) :: piecesOf ended (l' :: r)
theorem piecesOf_linesF : ∀ (b line : List Int), piecesOf (linesF b line).2 (linesF b line).1 = piecesF b line
  | [], line => by
    unfold linesF piecesF
    cases line <;> rfl
  | c :: r, line => by
    unfold linesF piecesF
    cases e : c == 10
    · simp only [cond_false]; exact piecesOf_linesF r (line ++ [c])
    · simp only [cond_true]
      have hc : c = 10 := by simpa using e
      have ih := piecesOf_linesF r []
      cases hr : (linesF r []).1 with
      | nil =>
        obtain ⟨h1, _⟩ := linesF_nil r [] hr
        subst h1; subst hc; rfl
      | cons l ls =>
        rw [hr] at ih
        rw [piecesOf, ih, hc]
theorem piecesOf_len (e : Bool) : ∀ L, (piecesOf e L).length = L.length
  | [] => rfl
  | [l] => rfl
  | l :: l' :: r => by rw [piecesOf, List.length_cons, piecesOf_len e (l' :: r)]; rfl
theorem F60l (k0 : Nat) (ended : Bool) (L : List (List Int)) (hL : wt L ≤ 8000000) : ∀ (k i : Nat) (P : List (List Int)), i ≤ L.length → L.length - i < k → P.length = i →
    loopN (F60.s122 k0) k (F60.i122 i ended L.length (P.map lineA) (L.map lineA)) = some (F60.r122 ((P ++ piecesOf ended (L.drop i)).map lineA))
  | 0, i, P, _, hk, _ => absurd hk (Nat.not_lt_zero _)
  | k + 1, i, P, hi, hk, hP => by
    have hwl := wt_length L
    rcases Nat.lt_or_ge i L.length with c | c
    · have h0 : (i : Int) < (L.length : Int) := by omega
      have h0' : (0 : Int) ≤ (i : Int) := by omega
      have h0'' : (i : Int) < ((L.map lineA).length : Int) := by rw [List.length_map]; exact h0
      have hw : IntKind.i64.wrap ((i : Int) + 1) = ((i + 1 : Nat) : Int) := by rw [wrap_id (by omega) (by omega)]; rfl
      have hwt := wt_mem L i c
      have hd1 := wt_drop L i
      have hg : AV.ints! ((L.map lineA).getD i (AV.tuple [])) = L[i] := by rw [getD_in (by rw [List.length_map]; exact c), List.getElem_map]; rfl
      have hm : IntKind.i64.wrap (((L.map lineA).length : Int) - 1) = (L.length : Int) - 1 := by rw [List.length_map, wrap_id (by omega) (by omega)]
      have b1 : (L[i]).length ≤ 8000000 := by omega
      have b2 : (L[i] ++ [10]).length ≤ 8000000 := by simp; omega
      have b3 (x : List Int) : ((P ++ [x]).map lineA).length ≤ 8000000 := by simp; omega
      have b4 (x : List Int) : P.map lineA ++ [AV.ro false (Lst.I IntKind.u8 x)] = (P ++ [x]).map lineA := by simp [lineA]
      have step : ∀ x, F60.s122 k0 (F60.i122 i ended L.length (P.map lineA) (L.map lineA)) = some (.inl (F60.i122 (i + 1 : Nat) ended L.length ((P ++ [x]).map lineA) (L.map lineA))) → piecesOf ended (L.drop i) = x :: piecesOf ended (L.drop (i + 1)) →
          loopN (F60.s122 k0) (k + 1) (F60.i122 i ended L.length (P.map lineA) (L.map lineA)) = some (F60.r122 ((P ++ piecesOf ended (L.drop i)).map lineA)) := by
        intro x hs hr
        have ih := F60l k0 ended L hL k (i + 1) (P ++ [x]) c (by omega) (by simp; omega)
        rw [hr]
        rw [List.append_assoc, List.singleton_append] at ih
        exact (loopN_inl hs).trans ih
      by_cases last : i + 1 < L.length
      · have d1 : (i : Int) < (L.length : Int) - 1 := by omega
        refine step (L[i] ++ [10]) ?_ ?_
        · unfold F60.s122 F60.go122
          simp only [h0, h0', h0'', decide_true, cond_true, Bool.and_self, Int.toNat_natCast, hg, ble1 b1, ble1 b2, hm, d1, b4, ble24 (b3 _), cond_true, hw]
        · rw [List.drop_eq_getElem_cons c, List.drop_eq_getElem_cons last]; rfl
      · have d1 : ¬ (i : Int) < (L.length : Int) - 1 := by omega
        have hnil : L.drop (i + 1) = [] := List.drop_eq_nil_of_le (by omega)
        cases ended with
        | true =>
          refine step (L[i] ++ [10]) ?_ ?_
          · unfold F60.s122 F60.go122
            simp only [h0, h0', h0'', decide_true, cond_true, Bool.and_self, Int.toNat_natCast, hg, ble1 b1, ble1 b2, hm, d1, decide_false, cond_false, b4, ble24 (b3 _), cond_true, hw]
          · rw [List.drop_eq_getElem_cons c, hnil]; rfl
        | false =>
          refine step L[i] ?_ ?_
          · unfold F60.s122 F60.go122
            simp only [h0, h0', h0'', decide_true, cond_true, Bool.and_self, Int.toNat_natCast, hg, ble1 b1, hm, d1, decide_false, cond_false, b4, ble24 (b3 _), cond_true, hw]
          · rw [List.drop_eq_getElem_cons c, hnil]; rfl
    · have : i = L.length := Nat.le_antisymm hi c
      subst this
      refine loopN_inr ?_
      unfold F60.s122 F60.go122
      simp only [Int.lt_irrefl, decide_false, cond_false, List.drop_length, piecesOf, List.append_nil]
theorem F60_eq (k : Nat) (b : List Int) (hb : b.length ≤ 1048576) (hk : b.length + 2 < k) : F60.go k b = some (F60.r ((piecesF b []).map lineA)) := by
  have h16 := F16_eq k b hb (by omega)
  have hw := linesF_wt b []
  simp only [List.length_nil] at hw
  have hwl := wt_length (linesF b []).1
  have L : F60.l_122 k (F60.i122 0 (linesF b []).2 (linesF b []).1.length [] ((linesF b []).1.map lineA)) = _ := F60l k (linesF b []).2 (linesF b []).1 (by omega) k 0 [] (Nat.zero_le _) (by omega) rfl
  rw [List.nil_append, List.drop_zero, piecesOf_linesF] at L
  unfold F60.go
  rw [h16]
  simp only [Option.bind_some, List.length_map]
  rw [L]; rfl
/-! pieces one behind the other -/
theorem flat_part : ∀ (L : List (List Int)) (off len : Nat), ((L.drop off).take len).flatten.length ≤ L.flatten.length := by
  intro L off len
  have h1 : L.flatten = (L.take off).flatten ++ ((L.drop off).take len).flatten ++ ((L.drop off).drop len).flatten := by
    rw [List.append_assoc, ← List.flatten_append, List.take_append_drop, ← List.flatten_append, List.take_append_drop]
  rw [h1]; simp only [List.length_append]; omega
theorem part_cons (L : List (List Int)) (off len i : Nat) (h : i < len) (hl : off + len ≤ L.length) : (L.drop (off + i)).take (len - i) = (L[off + i]'(by omega)) :: (L.drop (off + (i + 1))).take (len - (i + 1)) := by
  rw [List.drop_eq_getElem_cons (by omega : off + i < L.length)]
  have : len - i = (len - (i + 1)) + 1 := by omega
  rw [this, List.take_succ_cons]; rfl
theorem F56l (k0 : Nat) (L : List (List Int)) (off len : Nat) (hl : off + len ≤ L.length) (hn : L.length ≤ 8000000) : ∀ (k i : Nat) (out : List Int), i ≤ len → len - i < k → out.length + ((L.drop (off + i)).take (len - i)).flatten.length ≤ 8000000 →
    loopN (F56.s58 k0) k (F56.i58 i (off, len) len (L.map lineA) out) = some (F56.r58 (L.map lineA) (out ++ ((L.drop (off + i)).take (len - i)).flatten))
  | 0, i, out, _, hk, _ => absurd hk (Nat.not_lt_zero _)
  | k + 1, i, out, hi, hk, ho => by
    rcases Nat.lt_or_ge i len with c | c
    · have h0 : (i : Int) < (len : Int) := by omega
      have h0' : (0 : Int) ≤ (i : Int) := by omega
      have hw : IntKind.i64.wrap ((i : Int) + 1) = ((i + 1 : Nat) : Int) := by rw [wrap_id (by omega) (by omega)]; rfl
      have hg : AV.ints! ((L.map lineA).getD (off + i) (AV.tuple [])) = L[off + i]'(by omega) := by rw [getD_in (by rw [List.length_map]; omega), List.getElem_map]; rfl
      rw [part_cons L off len i c hl] at ho ⊢
      simp only [List.flatten_cons, List.length_append] at ho
      have b1 : (out ++ L[off + i]'(by omega)).length ≤ 8000000 := by simp; omega
      have s : F56.s58 k0 (F56.i58 i (off, len) len (L.map lineA) out) = some (.inl (F56.i58 (i + 1 : Nat) (off, len) len (L.map lineA) (out ++ L[off + i]'(by omega)))) := by
        unfold F56.s58 F56.go58 F59.go
        simp only [h0, h0', decide_true, cond_true, Bool.and_self, Int.toNat_natCast, hg, Option.bind_some, ble1 b1, hw]
      have ih := F56l k0 L off len hl hn k (i + 1) (out ++ L[off + i]'(by omega)) c (by omega) (by simp only [List.length_append]; omega)
      rw [List.flatten_cons, ← List.append_assoc]
      exact (loopN_inl s).trans ih
    · have : i = len := Nat.le_antisymm hi c
      subst this
      refine loopN_inr ?_
      unfold F56.s58 F56.go58
      simp only [Int.lt_irrefl, decide_false, cond_false, Nat.sub_self, List.take_zero, List.flatten_nil, List.append_nil]
theorem F56_eq (k : Nat) (L : List (List Int)) (off len : Nat) (hl : off + len ≤ L.length) (hn : L.length ≤ 8000000) (hf : L.flatten.length ≤ 8000000) (hk : len < k) : F56.go k (off, len) (L.map lineA) = some (F56.r (L.map lineA) ((L.drop off).take len).flatten) := by
  have hp := flat_part L off len
  have l := F56l k L off len hl hn k 0 [] (Nat.zero_le _) (by omega) (by simp only [List.length_nil, Nat.add_zero, Nat.sub_zero]; omega)
  have l : F56.l_58 k (F56.i58 0 (off, len) len (L.map lineA) []) = _ := l
  unfold F56.go
  rw [l]
  simp only [Option.bind_some, List.nil_append, Nat.add_zero, Nat.sub_zero]
theorem F61l (k0 : Nat) (L : List (List Int)) (off len : Nat) (hl : off + len ≤ L.length) (hn : L.length ≤ 8000000) : ∀ (k i : Nat) (out : List Int), i ≤ len → len - i < k → out.length + ((L.drop (off + i)).take (len - i)).flatten.length ≤ 8000000 →
    loopN (F61.s58 k0) k (F61.i58 i (off, len) len (L.map lineA) out) = some (F61.r58 (L.map lineA) (out ++ ((L.drop (off + i)).take (len - i)).flatten))
  | 0, i, out, _, hk, _ => absurd hk (Nat.not_lt_zero _)
  | k + 1, i, out, hi, hk, ho => by
    rcases Nat.lt_or_ge i len with c | c
    · have h0 : (i : Int) < (len : Int) := by omega
      have h0' : (0 : Int) ≤ (i : Int) := by omega
      have hw : IntKind.i64.wrap ((i : Int) + 1) = ((i + 1 : Nat) : Int) := by rw [wrap_id (by omega) (by omega)]; rfl
      have hg : AV.ints! ((L.map lineA).getD (off + i) (AV.tuple [])) = L[off + i]'(by omega) := by rw [getD_in (by rw [List.length_map]; omega), List.getElem_map]; rfl
      rw [part_cons L off len i c hl] at ho ⊢
      simp only [List.flatten_cons, List.length_append] at ho
      have b1 : (out ++ L[off + i]'(by omega)).length ≤ 8000000 := by simp; omega
      have s : F61.s58 k0 (F61.i58 i (off, len) len (L.map lineA) out) = some (.inl (F61.i58 (i + 1 : Nat) (off, len) len (L.map lineA) (out ++ L[off + i]'(by omega)))) := by
        unfold F61.s58 F61.go58
        simp only [h0, h0', decide_true, cond_true, Bool.and_self, Int.toNat_natCast, hg, ble1 b1, hw]
      have ih := F61l k0 L off len hl hn k (i + 1) (out ++ L[off + i]'(by omega)) c (by omega) (by simp only [List.length_append]; omega)
      rw [List.flatten_cons, ← List.append_assoc]
      exact (loopN_inl s).trans ih
    · have : i = len := Nat.le_antisymm hi c
      subst this
      refine loopN_inr ?_
      unfold F61.s58 F61.go58
      simp only [Int.lt_irrefl, decide_false, cond_false, Nat.sub_self, List.take_zero, List.flatten_nil, List.append_nil]
theorem F61_eq (k : Nat) (L : List (List Int)) (off len : Nat) (hl : off + len ≤ L.length) (hn : L.length ≤ 8000000) (hf : L.flatten.length ≤ 8000000) (hk : len < k) : F61.go k (off, len) (L.map lineA) = some (F61.r (L.map lineA) ((L.drop off).take len).flatten) := by
  have hp := flat_part L off len
  have l := F61l k L off len hl hn k 0 [] (Nat.zero_le _) (by omega) (by simp only [List.length_nil, Nat.add_zero, Nat.sub_zero]; omega)
  have l : F61.l_58 k (F61.i58 0 (off, len) len (L.map lineA) []) = _ := l
  unfold F61.go
  rw [l]
  simp only [Option.bind_some, List.nil_append, Nat.add_zero, Nat.sub_zero]
/-! how many -/
def firstN (n : Int) (of : Nat) : Nat := if 0 ≤ n then (if n > of then of else n.toNat) else if n < -(of : Int) then 0 else ((of : Int) + n).toNat
def lastN (n : Int) (of : Nat) (from_ : Bool) : Nat := bif from_ then (if n < 2 then 0 else if n - 1 > of then of else (n - 1).toNat) else (if n < 1 then of else if n > of then 0 else ((of : Int) - n).toNat)
theorem firstN_le (n : Int) (of : Nat) : firstN n of ≤ of := by
  unfold firstN; split <;> split <;> omega
theorem lastN_le (n : Int) (of : Nat) (f : Bool) : lastN n of f ≤ of := by
  unfold lastN; cases f
  · simp only [cond_false]; split
    · omega
    · split <;> omega
  · simp only [cond_true]; split
    · omega
    · split <;> omega
def i64 (n : Int) : Prop := -9223372036854775808 ≤ n ∧ n ≤ 9223372036854775807
theorem i64_of_wf {n : Int} (h : (Lit.int .i64 n).wf = true) : i64 n := by
  have h2 : (IntKind.i64.min ≤ n ∧ n ≤ IntKind.i64.max) := by
    simpa only [Lit.wf, Bool.and_eq_true, decide_eq_true_eq] using h
  exact h2
theorem F58_eq (k of : Nat) (n : Int) (ho : of ≤ 8000000) (hn : i64 n) : F58.go k of n = some (F58.r (firstN n of : Nat)) := by
  obtain ⟨n1, n2⟩ := hn
  have w0 : IntKind.i64.wrap (0 - (of : Int)) = 0 - (of : Int) := wrap_id (by omega) (by omega)
  unfold F58.go firstN
  by_cases h : n < 0
  · have h' : ¬ 0 ≤ n := by omega
    rw [if_neg h']
    simp only [h, decide_true, cond_true, w0]
    by_cases h1 : n < -(of : Int)
    · have h2 : n < 0 - (of : Int) := by omega
      rw [if_pos h1]
      simp only [h2, decide_true, cond_true]; rfl
    · have h2 : ¬ n < 0 - (of : Int) := by omega
      rw [if_neg h1]
      have w1 : IntKind.i64.wrap ((of : Int) + n) = (((of : Int) + n).toNat : Int) := by rw [wrap_id (by omega) (by omega)]; omega
      simp only [h2, decide_false, cond_false, w1]
  · have h' : 0 ≤ n := by omega
    rw [if_pos h']
    simp only [h, decide_false, cond_false]
    by_cases h1 : n > of
    · have h2 : ¬ n < (of : Int) := by omega
      rw [if_pos h1]
      simp only [h2, decide_false, cond_false]
    · rw [if_neg h1]
      by_cases h2 : n < (of : Int)
      · have : (n.toNat : Int) = n := by omega
        simp only [h2, decide_true, cond_true, this]
      · have : (n.toNat : Int) = (of : Int) := by omega
        simp only [h2, decide_false, cond_false, this]
theorem F62_eq (k of : Nat) (n : Int) (ho : of ≤ 8000000) (hn : i64 n) : F62.go k n of = some (F62.r (firstN n of : Nat)) := by
  obtain ⟨n1, n2⟩ := hn
  have w0 : IntKind.i64.wrap (0 - (of : Int)) = 0 - (of : Int) := wrap_id (by omega) (by omega)
  unfold F62.go firstN
  by_cases h : 0 ≤ n
  · have h' : n ≥ 0 := h
    rw [if_pos h]
    simp only [h', decide_true, cond_true]
    by_cases h1 : n > of
    · rw [if_pos h1]; simp only [h1, decide_true, cond_true]
    · rw [if_neg h1]
      have : (n.toNat : Int) = n := by omega
      simp only [h1, decide_false, cond_false, this]
  · have h' : ¬ n ≥ 0 := h
    rw [if_neg h]
    simp only [h', decide_false, cond_false, w0]
    by_cases h1 : n < -(of : Int)
    · have h2 : n < 0 - (of : Int) := by omega
      rw [if_pos h1]; simp only [h2, decide_true, cond_true]; rfl
    · have h2 : ¬ n < 0 - (of : Int) := by omega
      rw [if_neg h1]
      have w1 : IntKind.i64.wrap ((of : Int) + n) = (((of : Int) + n).toNat : Int) := by rw [wrap_id (by omega) (by omega)]; omega
      simp only [h2, decide_false, cond_false, w1]
theorem F63_eq (k of : Nat) (n : Int) (f : Bool) (ho : of ≤ 8000000) (hn : i64 n) : F63.go k of n f = some (F63.r (lastN n of f : Nat)) := by
  obtain ⟨n1, n2⟩ := hn
  unfold F63.go lastN
  cases f
  · simp only [cond_false]
    by_cases h : n < 1
    · rw [if_pos h]; simp only [h, decide_true, cond_true]
    · rw [if_neg h]
      have w1 : IntKind.i64.wrap ((of : Int) - n) = (of : Int) - n := wrap_id (by omega) (by omega)
      simp only [h, decide_false, cond_false, w1]
      by_cases h1 : n > of
      · rw [if_pos h1]
        have h2 : (of : Int) - n < 0 := by omega
        simp only [h2, decide_true, cond_true]; rfl
      · rw [if_neg h1]
        have h2 : ¬ (of : Int) - n < 0 := by omega
        have : (((of : Int) - n).toNat : Int) = (of : Int) - n := by omega
        simp only [h2, decide_false, cond_false, this]
  · simp only [cond_true]
    by_cases h : n < 2
    · rw [if_pos h]; simp only [h, decide_true, cond_true]; rfl
    · rw [if_neg h]
      have w1 : IntKind.i64.wrap (n - 1) = n - 1 := wrap_id (by omega) (by omega)
      simp only [h, decide_false, cond_false, w1]
      by_cases h1 : n - 1 > of
      · rw [if_pos h1]
        have h2 : ¬ n - 1 < (of : Int) := by omega
        simp only [h2, decide_false, cond_false]
      · rw [if_neg h1]
        by_cases h2 : n - 1 < (of : Int)
        · have : ((n - 1).toNat : Int) = n - 1 := by omega
          simp only [h2, decide_true, cond_true, this]
        · have : ((n - 1).toNat : Int) = (of : Int) := by omega
          simp only [h2, decide_false, cond_false, this]
theorem F64_eq (k of : Nat) (n : Int) (f : Bool) (ho : of ≤ 8000000) (hn : i64 n) : F64.go k n of f = some (F64.r (lastN n of f : Nat)) := by
  obtain ⟨n1, n2⟩ := hn
  unfold F64.go lastN
  cases f
  · simp only [cond_false]
    by_cases h : n < 1
    · rw [if_pos h]; simp only [h, decide_true, cond_true]
    · rw [if_neg h]
      simp only [h, decide_false, cond_false]
      by_cases h1 : n > of
      · rw [if_pos h1]; simp only [h1, decide_true, cond_true]; rfl
      · rw [if_neg h1]
        have w1 : IntKind.i64.wrap ((of : Int) - n) = (((of : Int) - n).toNat : Int) := by rw [wrap_id (by omega) (by omega)]; omega
        simp only [h1, decide_false, cond_false, w1]
  · simp only [cond_true]
    by_cases h : n < 2
    · rw [if_pos h]; simp only [h, decide_true, cond_true]; rfl
    · rw [if_neg h]
      have w1 : IntKind.i64.wrap (n - 1) = n - 1 := wrap_id (by omega) (by omega)
      simp only [h, decide_false, cond_false, w1]
      by_cases h1 : n - 1 > of
      · rw [if_pos h1]; simp only [h1, decide_true, cond_true]
      · rw [if_neg h1]
        have : ((n - 1).toNat : Int) = n - 1 := by omega
        simp only [h1, decide_false, cond_false, this]
/-! head and tail -/
theorem F48_1_eq (k : Nat) (l : List Int) (h : l.length ≤ 8000000) : F48_1.go k l = some (F48_1.r l) := by
  unfold F48_1.go; simp only [ble1 h, cond_true]
def headS (b : List Int) (n : Int) : List Int := ((piecesF b []).take (firstN n (piecesF b []).length)).flatten
def tailS (b : List Int) (n : Int) (f : Bool) : List Int := ((piecesF b []).drop (lastN n (piecesF b []).length f)).flatten
section
variable (k : Nat) (b : List Int) (n : Int) (f : Bool) (hB : isB b) (hb : b.length ≤ 1048576) (hk : b.length + 2 < k) (hn : i64 n)
include hB hb hk hn
theorem F21_eq : F21.go k b n = some (F21.r (headS b n)) := by
  have hl := piecesF_len b []
  have hf := piecesF_flat b []
  simp only [List.length_nil] at hl
  have hle := firstN_le n (piecesF b []).length
  have z : ((firstN n (piecesF b []).length : Nat) : Int) ≤ ((piecesF b []).length : Int) := by omega
  have z0 : (0 : Int) ≤ ((firstN n (piecesF b []).length : Nat) : Int) := by omega
  have h56 := F56_eq k (piecesF b []) 0 (firstN n (piecesF b []).length) (by omega) (by omega) (by rw [hf]; simp; omega) (by omega)
  unfold F21.go
  rw [F54_eq k b hB (by omega) (by omega)]
  simp only [Option.bind_some, List.length_map, F58_eq k _ n (by omega : (piecesF b []).length ≤ 8000000) hn, z, z0, decide_true, Bool.and_self, cond_true, Int.toNat_natCast, Nat.sub_zero, h56, List.drop_zero]
  rfl
theorem F22_eq : F22.go k b n = some (F22.r (headS b n)) := by
  have hl := piecesF_len b []
  have hf := piecesF_flat b []
  simp only [List.length_nil] at hl
  have hle := firstN_le n (piecesF b []).length
  have z : ((firstN n (piecesF b []).length : Nat) : Int) ≤ ((piecesF b []).length : Int) := by omega
  have z0 : (0 : Int) ≤ ((firstN n (piecesF b []).length : Nat) : Int) := by omega
  have h61 := F61_eq k (piecesF b []) 0 (firstN n (piecesF b []).length) (by omega) (by omega) (by rw [hf]; simp; omega) (by omega)
  unfold F22.go
  rw [F60_eq k b hb hk]
  simp only [Option.bind_some, List.length_map, F62_eq k _ n (by omega : (piecesF b []).length ≤ 8000000) hn, z, z0, decide_true, Bool.and_self, cond_true, Int.toNat_natCast, Nat.sub_zero, h61, List.drop_zero]
  rfl
theorem F25_eq : F25.go k b n f = some (F25.r (tailS b n f)) := by
  have hl := piecesF_len b []
  have hf := piecesF_flat b []
  simp only [List.length_nil] at hl
  have hle := lastN_le n (piecesF b []).length f
  have z : ((lastN n (piecesF b []).length f : Nat) : Int) ≤ ((piecesF b []).length : Int) := by omega
  have z0 : (0 : Int) ≤ ((lastN n (piecesF b []).length f : Nat) : Int) := by omega
  have h56 := F56_eq k (piecesF b []) (lastN n (piecesF b []).length f) ((piecesF b []).length - lastN n (piecesF b []).length f) (by omega) (by omega) (by rw [hf]; simp; omega) (by omega)
  have e : ((piecesF b []).drop (lastN n (piecesF b []).length f)).take ((piecesF b []).length - lastN n (piecesF b []).length f) = (piecesF b []).drop (lastN n (piecesF b []).length f) := by rw [← List.length_drop, List.take_length]
  unfold F25.go
  rw [F54_eq k b hB (by omega) (by omega)]
  simp only [Option.bind_some, List.length_map, F63_eq k _ n f (by omega : (piecesF b []).length ≤ 8000000) hn, z, z0, decide_true, Bool.and_self, cond_true, Int.toNat_natCast, h56, e]
  rfl
theorem F26_eq : F26.go k b n f = some (F26.r (tailS b n f)) := by
  have hl := piecesF_len b []
  have hf := piecesF_flat b []
  simp only [List.length_nil] at hl
  have hle := lastN_le n (piecesF b []).length f
  have z : ((lastN n (piecesF b []).length f : Nat) : Int) ≤ ((piecesF b []).length : Int) := by omega
  have z0 : (0 : Int) ≤ ((lastN n (piecesF b []).length f : Nat) : Int) := by omega
  have h61 := F61_eq k (piecesF b []) (lastN n (piecesF b []).length f) ((piecesF b []).length - lastN n (piecesF b []).length f) (by omega) (by omega) (by rw [hf]; simp; omega) (by omega)
  have e : ((piecesF b []).drop (lastN n (piecesF b []).length f)).take ((piecesF b []).length - lastN n (piecesF b []).length f) = (piecesF b []).drop (lastN n (piecesF b []).length f) := by rw [← List.length_drop, List.take_length]
  unfold F26.go
  rw [F60_eq k b hb hk]
  simp only [Option.bind_some, List.length_map, F64_eq k _ n f (by omega : (piecesF b []).length ≤ 8000000) hn, z, z0, decide_true, Bool.and_self, cond_true, Int.toNat_natCast, h61, e]
  rfl
theorem F23_eq : F23.go k b n = some (F23.r (b.take (firstN n b.length))) := by
  have hle := firstN_le n b.length
  have z : ((firstN n b.length : Nat) : Int) ≤ (b.length : Int) := by omega
  have z0 : (0 : Int) ≤ ((firstN n b.length : Nat) : Int) := by omega
  have b1 : (b.take (firstN n b.length)).length ≤ 8000000 := by simp; omega
  unfold F23.go
  simp only [F58_eq k _ n (by omega : b.length ≤ 8000000) hn, Option.bind_some, z, z0, decide_true, Bool.and_self, cond_true, Int.toNat_natCast, F48_1_eq k _ b1]
theorem F24_eq : F24.go k b n = some (F24.r (b.take (firstN n b.length))) := by
  have hle := firstN_le n b.length
  have z : ((firstN n b.length : Nat) : Int) ≤ (b.length : Int) := by omega
  have z0 : (0 : Int) ≤ ((firstN n b.length : Nat) : Int) := by omega
  have b1 : (b.take (firstN n b.length)).length ≤ 8000000 := by simp; omega
  unfold F24.go
  simp only [F62_eq k _ n (by omega : b.length ≤ 8000000) hn, Option.bind_some, z, z0, decide_true, Bool.and_self, cond_true, Int.toNat_natCast, ble1 b1]
theorem F27_eq : F27.go k b n f = some (F27.r (b.drop (lastN n b.length f))) := by
  have hle := lastN_le n b.length f
  have z : ((lastN n b.length f : Nat) : Int) ≤ (b.length : Int) := by omega
  have z0 : (0 : Int) ≤ ((lastN n b.length f : Nat) : Int) := by omega
  have b1 : (b.drop (lastN n b.length f)).length ≤ 8000000 := by simp; omega
  unfold F27.go
  simp only [F63_eq k _ n f (by omega : b.length ≤ 8000000) hn, Option.bind_some, z, z0, decide_true, Bool.and_self, cond_true, Int.toNat_natCast, F48_1_eq k _ b1]
theorem F28_eq : F28.go k b n f = some (F28.r (b.drop (lastN n b.length f))) := by
  have hle := lastN_le n b.length f
  have z : ((lastN n b.length f : Nat) : Int) ≤ (b.length : Int) := by omega
  have z0 : (0 : Int) ≤ ((lastN n b.length f : Nat) : Int) := by omega
  have b1 : (b.drop (lastN n b.length f)).length ≤ 8000000 := by simp; omega
  unfold F28.go
  simp only [F64_eq k _ n f (by omega : b.length ≤ 8000000) hn, Option.bind_some, z, z0, decide_true, Bool.and_self, cond_true, Int.toNat_natCast, ble1 b1]
end
theorem textEnds (b : List Int) (n : Int) (f : Bool) (hB : isB b) (hb : b.length ≤ 1048576) (hn : i64 n) : ∃ k, F5.go k b n f = some ((true, ()), (), ()) := by
  refine ⟨b.length + 4 + 200, ?_⟩
  have hk : b.length + 2 < b.length + 4 + 200 := by omega
  have h3 := F13_eq (b.length + 4)
  unfold F5.go
  rw [F21_eq _ b n hB hb hk hn, F22_eq _ b n hB hb hk hn, F23_eq _ b n hB hb hk hn, F24_eq _ b n hB hb hk hn, F25_eq _ b n f hB hb hk hn, F26_eq _ b n f hB hb hk hn, F27_eq _ b n f hB hb hk hn, F28_eq _ b n f hB hb hk hn]
  simp only [Option.bind_some, F12_eq _ _ _ rfl, cond_true, h3]
end Go.Proofs.Try.S

namespace Go.Proofs.Try.S
open Go Go.Ev
theorem bleL {n : Nat} (h : n ≤ 100000000000000) : (Nat.ble (n * 1) 140737488355328 && Nat.ble n 9223372036854775807) = true := by
  rw [Nat.ble_eq_true_of_le (by omega), Nat.ble_eq_true_of_le (by omega)]; rfl
theorem empty_str (d : ByteArray) : (ByteArray.toList d == ByteArray.toList { data := { toList := [] } }) = (d.size == 0) := by
  have h1 : ByteArray.toList d = d.data.toList := by
    have := arr_toList d.data.toList
    exact this
  have h2 : ByteArray.toList { data := { toList := [] } } = [] := arr_toList []
  rw [h1, h2]
  have h3 : d.size = d.data.toList.length := rfl
  rw [h3]
  cases d.data.toList <;> rfl
/-- the delimiter ahead of the i-th line -/
def dlS (d : ByteArray) (i : Nat) : List Int := bif Nat.blt 0 i && !(d.size == 0) then [((d.data.getD ((i - 1) % d.size) 0).toNat : Int)] else []
def glueFrom (d : ByteArray) : Nat → List AV → List Int
  | _, [] => []
  | i, x :: r => dlS d i ++ x.ints! ++ glueFrom d (i + 1) r
theorem dlS_len (d : ByteArray) (i : Nat) : (dlS d i).length ≤ 1 := by
  unfold dlS; cases Nat.blt 0 i && !(d.size == 0) <;> simp
theorem F65l (k0 : Nat) (d : ByteArray) (hd : d.size ≤ 8000000) (A : List AV) (hA : A.length ≤ 8000000) : ∀ (k i : Nat) (out : List Int), i ≤ A.length → A.length - i < k → out.length + (glueFrom d i (A.drop i)).length ≤ 100000000000000 →
    loopN (F65.s58 k0) k (F65.i58 i d A.length A out) = some (F65.r58 A (out ++ glueFrom d i (A.drop i)))
  | 0, i, out, _, hk, _ => absurd hk (Nat.not_lt_zero _)
  | k + 1, i, out, hi, hk, ho => by
    rcases Nat.lt_or_ge i A.length with c | c
    · have h0 : (i : Int) < (A.length : Int) := by omega
      have h0' : (0 : Int) ≤ (i : Int) := by omega
      have hw : IntKind.i64.wrap ((i : Int) + 1) = ((i + 1 : Nat) : Int) := by rw [wrap_id (by omega) (by omega)]; rfl
      rw [List.drop_eq_getElem_cons c] at ho ⊢
      rw [glueFrom] at ho ⊢
      simp only [List.length_append] at ho
      have s : F65.s58 k0 (F65.i58 i d A.length A out) = some (.inl (F65.i58 (i + 1 : Nat) d A.length A (out ++ (dlS d i ++ A[i].ints!)))) := by
        unfold F65.s58 F65.go58
        simp only [h0, h0', decide_true, cond_true, Bool.and_self, Int.toNat_natCast, getD_in c, empty_str, hw]
        cases i with
        | zero =>
          have e : dlS d 0 = [] := rfl
          have b1 : (out ++ A[0].ints!).length ≤ 100000000000000 := by simp only [List.length_append]; omega
          have g0 : ¬ (((0 : Nat) : Int) > 0) := by omega
          rw [e, List.nil_append]
          simp only [g0, decide_false, cond_false, bleL b1, cond_true]
        | succ j =>
          have g0 : (((j + 1 : Nat) : Int) > 0) := by omega
          simp only [g0, decide_true, cond_true]
          cases hz : d.size == 0
          · have hz' : d.size ≠ 0 := by rw [beq_eq_false_iff_ne] at hz; exact hz
            have e : dlS d (j + 1) = [((d.data.getD (j % d.size) 0).toNat : Int)] := by unfold dlS; rw [hz]; rfl
            have w1 : IntKind.i64.wrap (((j + 1 : Nat) : Int) - 1) = (j : Int) := by rw [wrap_id (by omega) (by omega)]; omega
            have w2 : (((d.size : Nat) : Int) == 0) = false := by rw [beq_eq_false_iff_ne]; omega
            have t : Int.tmod (j : Int) (d.size : Int) = ((j % d.size : Nat) : Int) := rfl
            have hm := Nat.mod_lt j (Nat.pos_of_ne_zero hz')
            have z2 : (0 : Int) ≤ ((j % d.size : Nat) : Int) := by omega
            have z3 : ((j % d.size : Nat) : Int) < (d.size : Int) := by omega
            rw [e] at ho ⊢
            simp only [List.length_cons, List.length_nil] at ho
            have b1 : (out ++ [((d.data.getD (j % d.size) 0).toNat : Int)]).length ≤ 100000000000000 := by simp only [List.length_append, List.length_cons, List.length_nil]; omega
            have b2 : (out ++ [((d.data.getD (j % d.size) 0).toNat : Int)] ++ A[j + 1].ints!).length ≤ 100000000000000 := by simp only [List.length_append, List.length_cons, List.length_nil]; omega
            simp only [Bool.not_false, cond_true, w1, w2, cond_false, t, z2, z3, decide_true, Bool.and_self, Int.toNat_natCast, bleL b1, bleL b2, ← List.append_assoc]
          · have e : dlS d (j + 1) = [] := by unfold dlS; rw [hz]; rfl
            have b1 : (out ++ A[j + 1].ints!).length ≤ 100000000000000 := by simp only [List.length_append]; omega
            rw [e, List.nil_append]
            simp only [Bool.not_true, cond_false, bleL b1, cond_true]
      have ih := F65l k0 d hd A hA k (i + 1) (out ++ (dlS d i ++ A[i].ints!)) c (by omega) (by simp only [List.length_append]; omega)
      rw [← List.append_assoc]
      exact (loopN_inl s).trans ih
    · have : i = A.length := Nat.le_antisymm hi c
      subst this
      refine loopN_inr ?_
      unfold F65.s58 F65.go58
      simp only [Int.lt_irrefl, decide_false, cond_false, List.drop_length, glueFrom, List.append_nil]
theorem F65_eq (k : Nat) (d : ByteArray) (hd : d.size ≤ 8000000) (A : List AV) (hA : A.length ≤ 8000000) (hk : A.length < k) (ho : (glueFrom d 0 A).length ≤ 10000000000000) : F65.go k d A = some (F65.r A (glueFrom d 0 A ++ [10])) := by
  have L : F65.l_58 k (F65.i58 0 d A.length A []) = _ := F65l k d hd A hA k 0 [] (Nat.zero_le _) (by omega) (by simp only [List.length_nil, List.drop_zero]; omega)
  have b1 : (glueFrom d 0 A ++ [10]).length ≤ 100000000000000 := by simp only [List.length_append, List.length_cons, List.length_nil]; omega
  rw [List.nil_append, List.drop_zero] at L
  unfold F65.go
  rw [L]
  simp only [Option.bind_some, bleL b1, cond_true]
/-! a line without its line feed -/
def bareS (x : List Int) : List Int := if x.drop (x.length - 1) = [10] then x.take (x.length - 1) else x
theorem bareS_lf (l : List Int) : bareS (l ++ [10]) = l := by
  unfold bareS
  have h1 : (l ++ [10]).length - 1 = l.length := by simp
  rw [h1, List.drop_left, if_pos rfl, List.take_left]
theorem bareS_flat {l : List Int} (h : flat l) : bareS l = l := by
  unfold bareS
  split
  · rename_i e
    have : (10 : Int) ∈ l := List.mem_of_mem_drop (i := l.length - 1) (by rw [e]; exact List.mem_singleton.2 rfl)
    have := h 10 this
    cases this
  · rfl
theorem pieces_bare : ∀ (b line : List Int), flat line → (piecesF b line).map bareS = (linesF b line).1
  | [], line, h => by
    unfold piecesF linesF
    cases e : line.isEmpty
    · simp only [cond_false, List.map_cons, List.map_nil, bareS_flat h]
    · rfl
  | c :: r, line, h => by
    unfold piecesF linesF
    cases e : c == 10
    · simp only [cond_false]
      refine pieces_bare r (line ++ [c]) ?_
      intro x hx
      rcases List.mem_append.1 hx with hx | hx
      · exact h x hx
      · rw [List.mem_singleton] at hx; subst hx; exact e
    · have hc : c = 10 := by simpa using e
      subst hc
      simp only [cond_true, List.map_cons, bareS_lf, pieces_bare r [] (fun _ h => by cases h)]
theorem str_one (c : Int) (h : 0 ≤ c ∧ c ≤ 255) : (ByteArray.toList (strOf [c]) == ByteArray.toList (strOf [10])) = (c == 10) := by
  have h1 : ByteArray.toList (strOf [c]) = [UInt8.ofNat c.toNat] := arr_toList [UInt8.ofNat c.toNat]
  have h2 : ByteArray.toList (strOf [10]) = [10] := arr_toList [10]
  rw [h1, h2, Bool.eq_iff_iff, beq_iff_eq, beq_iff_eq]
  constructor
  · intro e
    injection e with e _
    have : (UInt8.ofNat c.toNat).toNat = (10 : UInt8).toNat := by rw [e]
    rw [UInt8.toNat_ofNat'] at this
    have h3 : (10 : UInt8).toNat = 10 := rfl
    omega
  · intro e; subst e; rfl
theorem F55_eq (k : Nat) (x : List Int) (hB : isB x) (hx : x.length ≤ 8000000) : F55.go k x = some (F55.r (bareS x)) := by
  unfold F55.go F82.go F90.go F93.go
  rcases Nat.eq_zero_or_pos x.length with h0 | h0
  · have : x = [] := List.length_eq_zero_iff.1 h0
    subst this; rfl
  · have g1 : ((x.length : Nat) : Int) ≥ (([10] : List Int).length : Int) := by simp only [List.length_cons, List.length_nil]; omega
    have w : IntKind.i64.wrap (((x.length : Nat) : Int) - (([10] : List Int).length : Int)) = ((x.length - 1 : Nat) : Int) := by
      simp only [List.length_cons, List.length_nil]; rw [wrap_id (by omega) (by omega)]; omega
    have z1 : (0 : Int) ≤ ((x.length - 1 : Nat) : Int) := by omega
    have z2 : ((x.length - 1 : Nat) : Int) ≤ ((x.length : Nat) : Int) := by omega
    have hd : x.drop (x.length - 1) = [x[x.length - 1]'(by omega)] := by
      rw [List.drop_eq_getElem_cons (by omega), List.drop_eq_nil_of_le (by omega)]
    have hs := str_one (x[x.length - 1]'(by omega)) (hB _ (List.getElem_mem _))
    simp only [g1, decide_true, cond_true, w, z1, z2, Bool.and_self, Int.toNat_natCast, Option.bind_some]
    unfold bareS
    rw [hd, hs]
    cases e : x[x.length - 1]'(by omega) == 10
    · rw [beq_eq_false_iff_ne] at e
      rw [if_neg (by intro h; injection h with h; exact e h)]
      rfl
    · rw [beq_iff_eq] at e
      rw [if_pos (by rw [e])]
      rfl
/-! paste -/
def pieceRow (b : List Int) : AV := .ro false (.A (.roI false .u8) 1 ((piecesF b []).map lineA))
def lineRow (b : List Int) : AV := .ro false (.A (.roI false .u8) 1 ((linesF b []).1.map lineA))
def lensF (b : List Int) : Nat := (linesF b []).1.length
theorem lens_pieces (b : List Int) : (piecesF b []).length = lensF b := by
  unfold lensF; rw [← pieces_bare b [] (fun _ h => by cases h), List.length_map]
def mostF : List (List Int) → Nat → Nat
  | [], m => m
  | b :: r, m => mostF r (if m < lensF b then lensF b else m)
def tot : List (List Int) → Nat
  | [] => 0
  | b :: r => b.length + 2 + tot r
theorem tot_mem : ∀ {L : List (List Int)} {b : List Int}, b ∈ L → b.length + 2 ≤ tot L
  | x :: r, b, h => by
    rcases List.mem_cons.1 h with h | h
    · subst h; simp only [tot]; omega
    · have := tot_mem h; simp only [tot]; omega
theorem tot_drop : ∀ (L : List (List Int)) (i : Nat), tot (L.drop i) ≤ tot L
  | [], i => by simp
  | l :: r, 0 => Nat.le_refl _
  | l :: r, i + 1 => by have := tot_drop r i; simp only [List.drop_succ_cons, tot]; omega
theorem tot_len : ∀ (L : List (List Int)), 2 * L.length ≤ tot L
  | [] => Nat.le_refl _
  | l :: r => by have := tot_len r; simp only [List.length_cons, tot]; omega
theorem lensF_le (b : List Int) : lensF b ≤ b.length := by
  have := piecesF_len b []
  rw [lens_pieces] at this
  simpa using this
theorem mostF_le (L : List (List Int)) : ∀ (m n : Nat), m ≤ n → (∀ b ∈ L, b.length ≤ n) → mostF L m ≤ n := by
  induction L with
  | nil => intro m n h _; exact h
  | cons b r ih =>
    intro m n h hb
    have h1 := hb b (List.mem_cons_self ..)
    have h2 := lensF_le b
    refine ih _ n ?_ (fun x hx => hb x (List.mem_cons_of_mem _ hx))
    split <;> omega
theorem F32all (k0 : Nat) (d : ByteArray) (L : List (List Int)) (hB : ∀ b ∈ L, isB b) (hL : tot L ≤ 8000000) (hk0 : tot L ≤ k0) : ∀ (k i m : Nat) (P : List (List Int)), i ≤ L.length → L.length - i < k → P.length = i →
    loopN (F32.s122 k0) k (F32.i122 i m (L.map lineA) d L.length (P.map pieceRow)) = some (F32.r122 d (mostF (L.drop i) m : Nat) ((P ++ L.drop i).map pieceRow))
  | 0, i, m, P, _, hk, _ => absurd hk (Nat.not_lt_zero _)
  | k + 1, i, m, P, hi, hk, hP => by
    have hln := tot_len L
    rcases Nat.lt_or_ge i L.length with c | c
    · have h0 : (i : Int) < (L.length : Int) := by omega
      have h0' : (0 : Int) ≤ (i : Int) := by omega
      have h0'' : (i : Int) < ((L.map lineA).length : Int) := by rw [List.length_map]; exact h0
      have hw : IntKind.i64.wrap ((i : Int) + 1) = ((i + 1 : Nat) : Int) := by rw [wrap_id (by omega) (by omega)]; rfl
      have hg : AV.ints! ((L.map lineA).getD i (AV.tuple [])) = L[i] := by rw [getD_in (by rw [List.length_map]; exact c), List.getElem_map]; rfl
      have hm := tot_mem (List.getElem_mem c)
      have h54 := F54_eq k0 L[i] (hB _ (List.getElem_mem c)) (by omega) (by omega)
      have e1 : ∀ x, P.map pieceRow ++ [AV.ro false (Lst.A (Sh.roI false IntKind.u8) 1 ((piecesF x []).map lineA))] = (P ++ [x]).map pieceRow := by intro x; simp [pieceRow]
      have b1 : ((P ++ [L[i]]).map pieceRow).length ≤ 8000000 := by simp; omega
      have hmx : (bif decide ((m : Int) < ((lensF L[i] : Nat) : Int)) then ((lensF L[i] : Nat) : Int) else (m : Int)) = ((if m < lensF L[i] then lensF L[i] else m : Nat) : Int) := by
        by_cases q : m < lensF L[i]
        · have q' : (m : Int) < ((lensF L[i] : Nat) : Int) := by omega
          rw [if_pos q]; simp only [q', decide_true, cond_true]
        · have q' : ¬ (m : Int) < ((lensF L[i] : Nat) : Int) := by omega
          rw [if_neg q]; simp only [q', decide_false, cond_false]
      have s : F32.s122 k0 (F32.i122 i m (L.map lineA) d L.length (P.map pieceRow)) = some (.inl (F32.i122 (i + 1 : Nat) ((if m < lensF L[i] then lensF L[i] else m : Nat) : Int) (L.map lineA) d L.length ((P ++ [L[i]]).map pieceRow))) := by
        unfold F32.s122 F32.go122
        simp only [h0, h0', h0'', decide_true, cond_true, Bool.and_self, Int.toNat_natCast, hg, h54, Option.bind_some, List.length_map, lens_pieces, e1, hmx, hw]
        rw [← List.length_map (f := pieceRow), ble24 b1]
        rfl
      rw [List.drop_eq_getElem_cons c, mostF]
      have ih := F32all k0 d L hB hL hk0 k (i + 1) (if m < lensF L[i] then lensF L[i] else m) (P ++ [L[i]]) c (by omega) (by simp; omega)
      rw [List.append_assoc, List.singleton_append] at ih
      exact (loopN_inl s).trans ih
    · have : i = L.length := Nat.le_antisymm hi c
      subst this
      refine loopN_inr ?_
      unfold F32.s122 F32.go122
      simp only [Int.lt_irrefl, decide_false, cond_false, List.drop_length, mostF, List.append_nil]
def cell (i : Nat) (b : List Int) : AV := if h : i < (linesF b []).1.length then lineA ((linesF b []).1[i]) else .nils
theorem piece_get (b : List Int) (i : Nat) (h : i < (piecesF b []).length) (h' : i < (linesF b []).1.length) : bareS ((piecesF b [])[i]) = (linesF b []).1[i] := by
  have e := pieces_bare b [] (fun _ h => by cases h)
  have : ((piecesF b []).map bareS)[i]'(by rw [List.length_map]; exact h) = (linesF b []).1[i] := by simp only [e]
  rw [List.getElem_map] at this
  exact this
theorem pieces_isB {b : List Int} (hB : isB b) : ∀ x ∈ piecesF b [], isB x := by
  intro x hx n hn
  have : n ∈ (piecesF b []).flatten := List.mem_flatten.2 ⟨x, hx, hn⟩
  rw [piecesF_flat] at this
  exact hB n (by simpa using this)
theorem flat_mem_len {L : List (List Int)} {x : List Int} (h : x ∈ L) : x.length ≤ L.flatten.length := by
  obtain ⟨s, t, e⟩ := List.append_of_mem h
  rw [e, List.flatten_append, List.flatten_cons]; simp only [List.length_append]; omega
theorem pieces_mem_len {b : List Int} : ∀ x ∈ piecesF b [], x.length ≤ b.length := by
  intro x hx
  have h1 : (piecesF b []).flatten.length = b.length := by rw [piecesF_flat]; simp
  have h2 := flat_mem_len hx
  omega
theorem cell_in {i : Nat} {b : List Int} (h : i < (linesF b []).1.length) : cell i b = lineA ((linesF b []).1[i]) := by unfold cell; rw [dif_pos h]
theorem cell_out {i : Nat} {b : List Int} (h : ¬ i < (linesF b []).1.length) : cell i b = .nils := by unfold cell; rw [dif_neg h]
theorem set_mid {α : Type} (X : List α) (m : Nat) (y z : α) : (X ++ List.replicate (m + 1) z).set X.length y = X ++ [y] ++ List.replicate m z := by
  rw [List.set_append_right _ _ (Nat.le_refl _), Nat.sub_self, List.replicate_succ, List.set_cons_zero, List.append_assoc]; rfl
theorem F32row (k0 : Nat) (d : ByteArray) (L : List (List Int)) (hB : ∀ b ∈ L, isB b) (hL : tot L ≤ 8000000) (i : Nat) (most : Int) (out : List Int) (hi0 : i ≤ 8000000) : ∀ (k j : Nat), j ≤ L.length → L.length - j < k →
    loopN (F32.s518554 k0) k (F32.i518554 j i d most i L.length ((L.take j).map (cell i) ++ List.replicate (L.length - j) .nils) (L.map pieceRow) out) = some (F32.r518554 d most i (L.map pieceRow) (L.map (cell i)) out)
  | 0, j, _, hk => absurd hk (Nat.not_lt_zero _)
  | k + 1, j, hj, hk => by
    have hln := tot_len L
    rcases Nat.lt_or_ge j L.length with c | c
    · have h0 : (j : Int) < (L.length : Int) := by omega
      have h0' : (0 : Int) ≤ (j : Int) := by omega
      have h0'' : (j : Int) < ((L.map pieceRow).length : Int) := by rw [List.length_map]; exact h0
      have hw : IntKind.i64.wrap ((j : Int) + 1) = ((j + 1 : Nat) : Int) := by rw [wrap_id (by omega) (by omega)]; rfl
      have hg : AV.avs! ((L.map pieceRow).getD j (AV.tuple [])) = (piecesF L[j] []).map lineA := by rw [getD_in (by rw [List.length_map]; exact c), List.getElem_map]; rfl
      have hm := tot_mem (List.getElem_mem c)
      have hlp := lens_pieces L[j]
      have hlf := lensF_le L[j]
      have e0 : L.take (j + 1) = L.take j ++ [L[j]] := by rw [List.take_succ_eq_append_getElem c]
      have hlen : ((L.take j).map (cell i)).length = j := by rw [List.length_map, List.length_take]; omega
      have erep : L.length - j = (L.length - (j + 1)) + 1 := by omega
      have hrl : (((L.take j).map (cell i) ++ List.replicate (L.length - j) AV.nils).length : Int) = (L.length : Int) := by rw [List.length_append, hlen, List.length_replicate]; omega
      have step : F32.s518554 k0 (F32.i518554 j i d most i L.length ((L.take j).map (cell i) ++ List.replicate (L.length - j) .nils) (L.map pieceRow) out) =
          some (.inl (F32.i518554 (j + 1 : Nat) i d most i L.length ((L.take (j + 1)).map (cell i) ++ List.replicate (L.length - (j + 1)) .nils) (L.map pieceRow) out)) := by
        unfold F32.s518554 F32.go518554
        simp only [h0, h0', h0'', decide_true, cond_true, Bool.and_self, Int.toNat_natCast, hg, List.length_map]
        by_cases q : i < (linesF L[j] []).1.length
        · have q1 : i < (piecesF L[j] []).length := by rw [hlp]; exact q
          have q2 : (i : Int) < ((piecesF L[j] []).length : Int) := by omega
          have q3 : (0 : Int) ≤ (i : Int) := by omega
          have hp : AV.ints! (((piecesF L[j] []).map lineA).getD i (AV.tuple [])) = (piecesF L[j] [])[i] := by rw [getD_in (by rw [List.length_map]; exact q1), List.getElem_map]; rfl
          have h55 := F55_eq k0 ((piecesF L[j] [])[i]) (pieces_isB (hB _ (List.getElem_mem c)) _ (List.getElem_mem q1)) (by have := pieces_mem_len _ (List.getElem_mem q1); omega)
          have hc := cell_in q
          have hset : ((L.take j).map (cell i) ++ List.replicate (L.length - j) AV.nils).set j (AV.ro false (Lst.I IntKind.u8 (bareS ((piecesF L[j] [])[i])))) = (L.take (j + 1)).map (cell i) ++ List.replicate (L.length - (j + 1)) AV.nils := by
            have := set_mid ((L.take j).map (cell i)) (L.length - (j + 1)) (AV.ro false (Lst.I IntKind.u8 (bareS ((piecesF L[j] [])[i])))) AV.nils
            rw [hlen] at this
            rw [erep, this, e0, List.map_append, List.map_cons, List.map_nil, hc, piece_get _ _ q1 q]
            rfl
          simp only [q2, q3, decide_true, cond_true, Bool.and_self, Int.toNat_natCast, hp, h55, Option.bind_some, hset, hw, hrl, h0, h0']
        · have q2 : ¬ (i : Int) < ((piecesF L[j] []).length : Int) := by rw [hlp]; unfold lensF; omega
          have hc := cell_out q
          have hset : (L.take j).map (cell i) ++ List.replicate (L.length - j) AV.nils = (L.take (j + 1)).map (cell i) ++ List.replicate (L.length - (j + 1)) AV.nils := by
            rw [erep, e0, List.map_append, List.map_cons, List.map_nil, hc, List.replicate_succ, List.append_assoc]; rfl
          simp only [q2, decide_false, cond_false, hw, hset]
      exact (loopN_inl step).trans (F32row k0 d L hB hL i most out hi0 k (j + 1) c (by omega))
    · have : j = L.length := Nat.le_antisymm hj c
      subst this
      refine loopN_inr ?_
      unfold F32.s518554 F32.go518554
      simp only [Int.lt_irrefl, decide_false, cond_false, Nat.sub_self, List.replicate_zero, List.append_nil, List.take_length]
def rowS (d : ByteArray) (L : List (List Int)) (i : Nat) : List Int := glueFrom d 0 (L.map (cell i)) ++ [10]
def pasteFrom (d : ByteArray) (L : List (List Int)) : Nat → Nat → List Int
  | 0, _ => []
  | m + 1, i => rowS d L i ++ pasteFrom d L m (i + 1)
theorem lines_mem_len {b : List Int} : ∀ x ∈ (linesF b []).1, x.length ≤ b.length := by
  intro x hx
  have hw := linesF_wt b []
  have : ∀ (L : List (List Int)), x ∈ L → x.length + 1 ≤ wt L := by
    intro L
    induction L with
    | nil => intro h; cases h
    | cons y r ih =>
      intro h
      rcases List.mem_cons.1 h with h | h
      · subst h; simp only [wt]; omega
      · have := ih h; simp only [wt]; omega
  have := this _ hx
  simp only [List.length_nil] at hw; omega
theorem cell_len (i : Nat) (b : List Int) : (cell i b).ints!.length ≤ b.length := by
  unfold cell
  split
  · exact lines_mem_len _ (List.getElem_mem _)
  · exact Nat.zero_le _
theorem glue_len (d : ByteArray) (i : Nat) : ∀ (L : List (List Int)) (k : Nat), (glueFrom d k (L.map (cell i))).length ≤ tot L
  | [], k => Nat.le_refl _
  | b :: r, k => by
    have h1 := glue_len d i r (k + 1)
    have h2 := cell_len i b
    have h3 := dlS_len d k
    simp only [List.map_cons, glueFrom, List.length_append, tot]; omega
theorem rowS_len (d : ByteArray) (L : List (List Int)) (i : Nat) : (rowS d L i).length ≤ tot L + 1 := by
  have := glue_len d i L 0
  unfold rowS; simp only [List.length_append, List.length_cons, List.length_nil]; omega
theorem F32l (k0 : Nat) (d : ByteArray) (hd : d.size ≤ 8000000) (L : List (List Int)) (hB : ∀ b ∈ L, isB b) (hL : tot L ≤ 8000000) (hk0 : tot L + 2 ≤ k0) (n : Nat) (hn : n ≤ 8000000) : ∀ (k m i : Nat) (out : List Int), i + m = n → m < k → out.length + m * (tot L + 1) ≤ 100000000000000 →
    loopN (F32.s506 k0) k (F32.i506 i d n out (L.map pieceRow)) = some (F32.r506 (out ++ pasteFrom d L m i))
  | 0, m, i, out, _, hk, _ => absurd hk (Nat.not_lt_zero _)
  | k + 1, 0, i, out, him, hk, ho => by
    have : i = n := by omega
    subst this
    refine loopN_inr ?_
    unfold F32.s506 F32.go506
    simp only [Int.lt_irrefl, decide_false, cond_false, pasteFrom, List.append_nil]
  | k + 1, m + 1, i, out, him, hk, ho => by
    have hln := tot_len L
    have h0 : (i : Int) < (n : Int) := by omega
    have hw : IntKind.i64.wrap ((i : Int) + 1) = ((i + 1 : Nat) : Int) := by rw [wrap_id (by omega) (by omega)]; rfl
    rw [Nat.succ_mul] at ho
    have hgl := glue_len d i L 0
    have hrl := rowS_len d L i
    have hrow : ∀ most : Int, F32.l_518554 k0 (F32.i518554 0 i d most i L.length (List.replicate L.length .nils) (L.map pieceRow) out) = some (F32.r518554 d most i (L.map pieceRow) (L.map (cell i)) out) := by
      intro most
      have := F32row k0 d L hB hL i most out (by omega) k0 0 (Nat.zero_le _) (by omega)
      rw [List.take_zero, List.map_nil, List.nil_append, Nat.sub_zero] at this
      exact this
    have h65 := F65_eq k0 d hd (L.map (cell i)) (by rw [List.length_map]; omega) (by rw [List.length_map]; omega) (by omega)
    have z0 : (0 : Int) ≤ (L.length : Int) := by omega
    have z1 : 24 * (L.length : Int) ≤ 281474976710656 := by omega
    have z2 : (L.length : Int) ≤ 9223372036854775807 := by omega
    have b1 : (out ++ rowS d L i).length ≤ 100000000000000 := by simp only [List.length_append]; omega
    have b1' : (out ++ (glueFrom d 0 (L.map (cell i)) ++ [10])).length ≤ 100000000000000 := b1
    have s : F32.s506 k0 (F32.i506 i d n out (L.map pieceRow)) = some (.inl (F32.i506 (i + 1 : Nat) d n (out ++ rowS d L i) (L.map pieceRow))) := by
      unfold F32.s506 F32.go506
      simp only [h0, decide_true, cond_true, List.length_map, z0, z1, z2, Int.le_refl, Bool.and_self, Int.toNat_natCast]
      rw [hrow]
      simp only [Option.bind_some, h65, bleL b1', cond_true, hw]
      rfl
    have ih := F32l k0 d hd L hB hL hk0 n hn k m (i + 1) (out ++ rowS d L i) (by omega) (by omega) (by simp only [List.length_append]; omega)
    rw [pasteFrom, ← List.append_assoc]
    exact (loopN_inl s).trans ih
theorem F32_eq (k : Nat) (d : ByteArray) (hd : d.size ≤ 2000000) (L : List (List Int)) (hB : ∀ b ∈ L, isB b) (hL : tot L ≤ 4000000) (hk : tot L + 2 ≤ k) : F32.go k (L.map lineA) d = some (F32.r (pasteFrom d L (mostF L 0) 0)) := by
  have hln := tot_len L
  have h1 : F32.l_122 k (F32.i122 0 0 (L.map lineA) d L.length []) = _ := F32all k d L hB (by omega) (by omega) k 0 0 [] (Nat.zero_le _) (by omega) rfl
  rw [List.drop_zero, List.nil_append] at h1
  have hmo : mostF L 0 ≤ tot L := mostF_le L 0 (tot L) (Nat.zero_le _) (fun b hb => by have := tot_mem hb; omega)
  have hmul : mostF L 0 * (tot L + 1) ≤ 4000000 * 4000001 := Nat.mul_le_mul (by omega) (by omega)
  have h2 : F32.l_506 k (F32.i506 0 d (mostF L 0 : Nat) [] (L.map pieceRow)) = _ := F32l k d (by omega) L hB (by omega) hk (mostF L 0) (by omega) k (mostF L 0) 0 [] (by omega) (by omega) (by simp only [List.length_nil]; omega)
  rw [List.nil_append] at h2
  unfold F32.go
  rw [List.length_map, h1]
  simp only [Option.bind_some]
  rw [h2]; rfl
/-! the reference's paste -/
theorem F33all (k0 : Nat) (d : ByteArray) (L : List (List Int)) (hS : ∀ b ∈ L, b.length ≤ 1048576) (hL : tot L ≤ 2200000) (hk0 : tot L ≤ k0) : ∀ (k i m : Nat) (P : List (List Int)), i ≤ L.length → L.length - i < k → P.length = i →
    loopN (F33.s122 k0) k (F33.i122 i m (L.map lineA) d L.length (P.map lineRow)) = some (F33.r122 d (mostF (L.drop i) m : Nat) ((P ++ L.drop i).map lineRow))
  | 0, i, m, P, _, hk, _ => absurd hk (Nat.not_lt_zero _)
  | k + 1, i, m, P, hi, hk, hP => by
    have hln := tot_len L
    rcases Nat.lt_or_ge i L.length with c | c
    · have h0 : (i : Int) < (L.length : Int) := by omega
      have h0' : (0 : Int) ≤ (i : Int) := by omega
      have h0'' : (i : Int) < ((L.map lineA).length : Int) := by rw [List.length_map]; exact h0
      have hw : IntKind.i64.wrap ((i : Int) + 1) = ((i + 1 : Nat) : Int) := by rw [wrap_id (by omega) (by omega)]; rfl
      have hg : AV.ints! ((L.map lineA).getD i (AV.tuple [])) = L[i] := by rw [getD_in (by rw [List.length_map]; exact c), List.getElem_map]; rfl
      have hm := tot_mem (List.getElem_mem c)
      have h16 := F16_eq k0 L[i] (hS _ (List.getElem_mem c)) (by omega)
      have e1 : ∀ x, P.map lineRow ++ [AV.ro false (Lst.A (Sh.roI false IntKind.u8) 1 ((linesF x []).1.map lineA))] = (P ++ [x]).map lineRow := by intro x; simp [lineRow]
      have b1 : ((P ++ [L[i]]).map lineRow).length ≤ 8000000 := by simp; omega
      have s : F33.s122 k0 (F33.i122 i m (L.map lineA) d L.length (P.map lineRow)) = some (.inl (F33.i122 (i + 1 : Nat) ((if m < lensF L[i] then lensF L[i] else m : Nat) : Int) (L.map lineA) d L.length ((P ++ [L[i]]).map lineRow))) := by
        unfold F33.s122 F33.go122
        simp only [h0, h0', h0'', decide_true, cond_true, Bool.and_self, Int.toNat_natCast, hg, h16, Option.bind_some, List.length_map, e1]
        rw [← List.length_map (f := lineRow), ble24 b1]
        by_cases q : m < lensF L[i]
        · have q' : (((linesF L[i] []).1.length : Nat) : Int) > (m : Int) := by unfold lensF at q; omega
          rw [if_pos q]; simp only [q', decide_true, cond_true, hw]; rfl
        · have q' : ¬ (((linesF L[i] []).1.length : Nat) : Int) > (m : Int) := by unfold lensF at q; omega
          rw [if_neg q]; simp only [q', decide_false, cond_true, cond_false, hw]
      rw [List.drop_eq_getElem_cons c, mostF]
      have ih := F33all k0 d L hS hL hk0 k (i + 1) (if m < lensF L[i] then lensF L[i] else m) (P ++ [L[i]]) c (by omega) (by simp; omega)
      rw [List.append_assoc, List.singleton_append] at ih
      exact (loopN_inl s).trans ih
    · have : i = L.length := Nat.le_antisymm hi c
      subst this
      refine loopN_inr ?_
      unfold F33.s122 F33.go122
      simp only [Int.lt_irrefl, decide_false, cond_false, List.drop_length, mostF, List.append_nil]
theorem F33row (k0 : Nat) (d : ByteArray) (hd : d.size ≤ 8000000) (L : List (List Int)) (hL : tot L ≤ 8000000) (i : Nat) (most : Int) (hi0 : i ≤ 8000000) : ∀ (k j : Nat) (out : List Int), j ≤ L.length → L.length - j < k → out.length + (glueFrom d j ((L.drop j).map (cell i))).length ≤ 100000000000000 →
    loopN (F33.s64802 k0) k (F33.i64802 j i d most L.length out (L.map lineRow)) = some (F33.r64802 d most i (L.map lineRow) (out ++ glueFrom d j ((L.drop j).map (cell i))))
  | 0, j, out, _, hk, _ => absurd hk (Nat.not_lt_zero _)
  | k + 1, j, out, hj, hk, ho => by
    have hln := tot_len L
    rcases Nat.lt_or_ge j L.length with c | c
    · have h0 : (j : Int) < (L.length : Int) := by omega
      have h0' : (0 : Int) ≤ (j : Int) := by omega
      have h0'' : (j : Int) < ((L.map lineRow).length : Int) := by rw [List.length_map]; exact h0
      have hw : IntKind.i64.wrap ((j : Int) + 1) = ((j + 1 : Nat) : Int) := by rw [wrap_id (by omega) (by omega)]; rfl
      have hg : AV.avs! ((L.map lineRow).getD j (AV.tuple [])) = (linesF L[j] []).1.map lineA := by rw [getD_in (by rw [List.length_map]; exact c), List.getElem_map]; rfl
      rw [List.drop_eq_getElem_cons c, List.map_cons, glueFrom] at ho ⊢
      simp only [List.length_append] at ho
      -- the line, behind what stands
      have line : ∀ (γ : Type) (o : List Int), o.length + (cell i L[j]).ints!.length ≤ 100000000000000 →
          (bif decide ((i : Int) < (((linesF L[j] []).1.length : Nat) : Int)) then bif decide ((0 : Int) ≤ (i : Int)) && decide ((i : Int) < (((linesF L[j] []).1.length : Nat) : Int)) then
              bif Nat.ble ((o ++ AV.ints! (((linesF L[j] []).1.map lineA).getD i (AV.tuple []))).length * 1) 140737488355328 && Nat.ble (o ++ AV.ints! (((linesF L[j] []).1.map lineA).getD i (AV.tuple []))).length 9223372036854775807 then
                some (Sum.inl (β := γ) (F33.i64802 (j + 1 : Nat) i d most L.length (o ++ AV.ints! (((linesF L[j] []).1.map lineA).getD i (AV.tuple []))) (L.map lineRow))) else none else none
            else some (.inl (F33.i64802 (j + 1 : Nat) i d most L.length o (L.map lineRow)))) = some (Sum.inl (β := γ) (F33.i64802 (j + 1 : Nat) i d most L.length (o ++ (cell i L[j]).ints!) (L.map lineRow))) := by
        intro γ o hb
        by_cases q : i < (linesF L[j] []).1.length
        · have q2 : (i : Int) < (((linesF L[j] []).1.length : Nat) : Int) := by omega
          have q3 : (0 : Int) ≤ (i : Int) := by omega
          have hp : AV.ints! (((linesF L[j] []).1.map lineA).getD i (AV.tuple [])) = (cell i L[j]).ints! := by rw [getD_in (by rw [List.length_map]; exact q), List.getElem_map, cell_in q]
          have b1 : (o ++ (cell i L[j]).ints!).length ≤ 100000000000000 := by simp only [List.length_append]; omega
          simp only [q2, q3, decide_true, cond_true, Bool.and_self, hp, bleL b1]
        · have q2 : ¬ (i : Int) < (((linesF L[j] []).1.length : Nat) : Int) := by omega
          have hc : (cell i L[j]).ints! = [] := by rw [cell_out q]; rfl
          simp only [q2, decide_false, cond_false, hc, List.append_nil]
      have s : F33.s64802 k0 (F33.i64802 j i d most L.length out (L.map lineRow)) = some (.inl (F33.i64802 (j + 1 : Nat) i d most L.length (out ++ dlS d j ++ (cell i L[j]).ints!) (L.map lineRow))) := by
        unfold F33.s64802 F33.go64802
        simp only [h0, h0', h0'', decide_true, cond_true, Bool.and_self, Int.toNat_natCast, hg, empty_str, hw, List.length_map]
        cases j with
        | zero =>
          have e : dlS d 0 = [] := rfl
          have g0 : ¬ (((0 : Nat) : Int) > 0) := by omega
          rw [e, List.append_nil]
          simp only [g0, decide_false, cond_false]
          exact line _ out (by omega)
        | succ j =>
          have g0 : (((j + 1 : Nat) : Int) > 0) := by omega
          simp only [g0, decide_true, cond_true]
          cases hz : d.size == 0
          · have hz' : d.size ≠ 0 := by rw [beq_eq_false_iff_ne] at hz; exact hz
            have e : dlS d (j + 1) = [((d.data.getD (j % d.size) 0).toNat : Int)] := by unfold dlS; rw [hz]; rfl
            have w1 : IntKind.i64.wrap (((j + 1 : Nat) : Int) - 1) = (j : Int) := by rw [wrap_id (by omega) (by omega)]; omega
            have w2 : (((d.size : Nat) : Int) == 0) = false := by rw [beq_eq_false_iff_ne]; omega
            have t : Int.tmod (j : Int) (d.size : Int) = ((j % d.size : Nat) : Int) := rfl
            have hm := Nat.mod_lt j (Nat.pos_of_ne_zero hz')
            have z2 : (0 : Int) ≤ ((j % d.size : Nat) : Int) := by omega
            have z3 : ((j % d.size : Nat) : Int) < (d.size : Int) := by omega
            rw [e] at ho ⊢
            simp only [List.length_cons, List.length_nil] at ho
            have b1 : (out ++ [((d.data.getD (j % d.size) 0).toNat : Int)]).length ≤ 100000000000000 := by simp only [List.length_append, List.length_cons, List.length_nil]; omega
            simp only [Bool.not_false, cond_true, w1, w2, cond_false, t, z2, z3, decide_true, Bool.and_self, Int.toNat_natCast, bleL b1]
            exact line _ (out ++ [((d.data.getD (j % d.size) 0).toNat : Int)]) (by simp only [List.length_append, List.length_cons, List.length_nil]; omega)
          · have e : dlS d (j + 1) = [] := by unfold dlS; rw [hz]; rfl
            rw [e, List.append_nil]
            simp only [Bool.not_true, cond_false]
            exact line _ out (by omega)
      have ih := F33row k0 d hd L hL i most hi0 k (j + 1) (out ++ dlS d j ++ (cell i L[j]).ints!) c (by omega) (by simp only [List.length_append]; omega)
      have ea : out ++ (dlS d j ++ (cell i L[j]).ints! ++ glueFrom d (j + 1) ((L.drop (j + 1)).map (cell i))) = out ++ dlS d j ++ (cell i L[j]).ints! ++ glueFrom d (j + 1) ((L.drop (j + 1)).map (cell i)) := by simp only [List.append_assoc]
      rw [ea]
      exact (loopN_inl s).trans ih
    · have : j = L.length := Nat.le_antisymm hj c
      subst this
      refine loopN_inr ?_
      unfold F33.s64802 F33.go64802
      simp only [Int.lt_irrefl, decide_false, cond_false, List.drop_length, List.map_nil, glueFrom, List.append_nil]
theorem F33l (k0 : Nat) (d : ByteArray) (hd : d.size ≤ 8000000) (L : List (List Int)) (hL : tot L ≤ 8000000) (hk0 : tot L + 2 ≤ k0) (n : Nat) (hn : n ≤ 8000000) : ∀ (k m i : Nat) (out : List Int), i + m = n → m < k → out.length + m * (tot L + 1) ≤ 100000000000000 →
    loopN (F33.s506 k0) k (F33.i506 i d n out (L.map lineRow)) = some (F33.r506 (out ++ pasteFrom d L m i))
  | 0, m, i, out, _, hk, _ => absurd hk (Nat.not_lt_zero _)
  | k + 1, 0, i, out, him, hk, ho => by
    have : i = n := by omega
    subst this
    refine loopN_inr ?_
    unfold F33.s506 F33.go506
    simp only [Int.lt_irrefl, decide_false, cond_false, pasteFrom, List.append_nil]
  | k + 1, m + 1, i, out, him, hk, ho => by
    have hln := tot_len L
    have h0 : (i : Int) < (n : Int) := by omega
    have hw : IntKind.i64.wrap ((i : Int) + 1) = ((i + 1 : Nat) : Int) := by rw [wrap_id (by omega) (by omega)]; rfl
    rw [Nat.succ_mul] at ho
    have hgl := glue_len d i L 0
    have hrl := rowS_len d L i
    have hrow : F33.l_64802 k0 (F33.i64802 0 i d n L.length out (L.map lineRow)) = some (F33.r64802 d n i (L.map lineRow) (out ++ glueFrom d 0 (L.map (cell i)))) := by
      have := F33row k0 d hd L hL i n (by omega) k0 0 out (Nat.zero_le _) (by omega) (by rw [List.drop_zero]; omega)
      rw [List.drop_zero] at this
      exact this
    have b1 : (out ++ rowS d L i).length ≤ 100000000000000 := by simp only [List.length_append]; omega
    have b1' : (out ++ glueFrom d 0 (L.map (cell i)) ++ [10]).length ≤ 100000000000000 := by rw [List.append_assoc]; exact b1
    have e1 : out ++ glueFrom d 0 (L.map (cell i)) ++ [10] = out ++ rowS d L i := by rw [List.append_assoc]; rfl
    have s : F33.s506 k0 (F33.i506 i d n out (L.map lineRow)) = some (.inl (F33.i506 (i + 1 : Nat) d n (out ++ rowS d L i) (L.map lineRow))) := by
      unfold F33.s506 F33.go506
      simp only [h0, decide_true, cond_true, List.length_map]
      rw [hrow]
      simp only [Option.bind_some, e1, bleL b1, cond_true, hw]
    have ih := F33l k0 d hd L hL hk0 n hn k m (i + 1) (out ++ rowS d L i) (by omega) (by omega) (by simp only [List.length_append]; omega)
    rw [pasteFrom, ← List.append_assoc]
    exact (loopN_inl s).trans ih
theorem F33_eq (k : Nat) (d : ByteArray) (hd : d.size ≤ 2000000) (L : List (List Int)) (hS : ∀ b ∈ L, b.length ≤ 1048576) (hL : tot L ≤ 2200000) (hk : tot L + 2 ≤ k) : F33.go k (L.map lineA) d = some (F33.r (pasteFrom d L (mostF L 0) 0)) := by
  have hln := tot_len L
  have h1 : F33.l_122 k (F33.i122 0 0 (L.map lineA) d L.length []) = _ := F33all k d L hS (by omega) (by omega) k 0 0 [] (Nat.zero_le _) (by omega) rfl
  rw [List.drop_zero, List.nil_append] at h1
  have hmo : mostF L 0 ≤ tot L := mostF_le L 0 (tot L) (Nat.zero_le _) (fun b hb => by have := tot_mem hb; omega)
  have hmul : mostF L 0 * (tot L + 1) ≤ 4000000 * 4000001 := Nat.mul_le_mul (by omega) (by omega)
  have h2 : F33.l_506 k (F33.i506 0 d (mostF L 0 : Nat) [] (L.map lineRow)) = _ := F33l k d (by omega) L (by omega) hk (mostF L 0) (by omega) k (mostF L 0) 0 [] (by omega) (by omega) (by simp only [List.length_nil]; omega)
  rw [List.nil_append] at h2
  unfold F33.go
  rw [List.length_map, h1]
  simp only [Option.bind_some]
  rw [h2]; rfl
/-! one text's lines in one -/
theorem F15l (k0 : Nat) (b : List Int) (hB : isB b) (hb : b.length ≤ 8000000) : ∀ (k i : Nat) (P : List (List Int)), i ≤ (piecesF b []).length → (piecesF b []).length - i < k → P.length = i →
    loopN (F15.s58 k0) k (F15.i58 i b (piecesF b []).length (P.map lineA) ((piecesF b []).map lineA)) = some (F15.r58 b ((P ++ ((piecesF b []).drop i).map bareS).map lineA))
  | 0, i, P, _, hk, _ => absurd hk (Nat.not_lt_zero _)
  | k + 1, i, P, hi, hk, hP => by
    have hln := piecesF_len b []
    simp only [List.length_nil] at hln
    rcases Nat.lt_or_ge i (piecesF b []).length with c | c
    · have h0 : (i : Int) < ((piecesF b []).length : Int) := by omega
      have h0' : (0 : Int) ≤ (i : Int) := by omega
      have h0'' : (i : Int) < (((piecesF b []).map lineA).length : Int) := by rw [List.length_map]; exact h0
      have hw : IntKind.i64.wrap ((i : Int) + 1) = ((i + 1 : Nat) : Int) := by rw [wrap_id (by omega) (by omega)]; rfl
      have hg : AV.ints! (((piecesF b []).map lineA).getD i (AV.tuple [])) = (piecesF b [])[i] := by rw [getD_in (by rw [List.length_map]; exact c), List.getElem_map]; rfl
      have hpl := pieces_mem_len _ (List.getElem_mem c)
      have h55 := F55_eq k0 ((piecesF b [])[i]) (pieces_isB hB _ (List.getElem_mem c)) (by omega)
      have hbl : (bareS ((piecesF b [])[i])).length ≤ (piecesF b [])[i].length := by
        unfold bareS
        split
        · rw [List.length_take]; omega
        · exact Nat.le_refl _
      have h48 := F48_1_eq k0 (bareS ((piecesF b [])[i])) (by omega)
      have e1 : P.map lineA ++ [AV.ro false (Lst.I IntKind.u8 (bareS ((piecesF b [])[i])))] = (P ++ [bareS ((piecesF b [])[i])]).map lineA := by simp [lineA]
      have b1 : ((P ++ [bareS ((piecesF b [])[i])]).map lineA).length ≤ 8000000 := by simp; omega
      have s : F15.s58 k0 (F15.i58 i b (piecesF b []).length (P.map lineA) ((piecesF b []).map lineA)) = some (.inl (F15.i58 (i + 1 : Nat) b (piecesF b []).length ((P ++ [bareS ((piecesF b [])[i])]).map lineA) ((piecesF b []).map lineA))) := by
        unfold F15.s58 F15.go58
        simp only [h0, h0', h0'', decide_true, cond_true, Bool.and_self, Int.toNat_natCast, hg, h55, h48, Option.bind_some, e1, ble24 b1, hw]
      have ih := F15l k0 b hB hb k (i + 1) (P ++ [bareS ((piecesF b [])[i])]) c (by omega) (by simp; omega)
      rw [List.append_assoc, List.singleton_append] at ih
      rw [List.drop_eq_getElem_cons c, List.map_cons]
      exact (loopN_inl s).trans ih
    · have : i = (piecesF b []).length := Nat.le_antisymm hi c
      subst this
      refine loopN_inr ?_
      unfold F15.s58 F15.go58
      simp only [Int.lt_irrefl, decide_false, cond_false, List.drop_length, List.map_nil, List.append_nil]
theorem F15_eq (k : Nat) (b : List Int) (hB : isB b) (hb : b.length ≤ 8000000) (hk : b.length < k) : ∃ e, F15.go k b = some (F15.r e ((linesF b []).1.map lineA)) := by
  have hln := piecesF_len b []
  simp only [List.length_nil] at hln
  have L : F15.l_58 k (F15.i58 0 b (piecesF b []).length [] ((piecesF b []).map lineA)) = _ := F15l k b hB hb k 0 [] (Nat.zero_le _) (by omega) rfl
  rw [List.nil_append, List.drop_zero, pieces_bare b [] (fun _ h => by cases h)] at L
  unfold F15.go
  rw [F54_eq k b hB hb hk]
  simp only [Option.bind_some, List.length_map]
  rw [L]
  simp only [Option.bind_some]
  cases e : ((b.length : Nat) : Int) == 0
  · have hne : b.length ≠ 0 := by rw [beq_eq_false_iff_ne] at e; omega
    have w : IntKind.i64.wrap (((b.length : Nat) : Int) - 1) = ((b.length - 1 : Nat) : Int) := by rw [wrap_id (by omega) (by omega)]; omega
    have z1 : (0 : Int) ≤ ((b.length - 1 : Nat) : Int) := by omega
    have z2 : ((b.length - 1 : Nat) : Int) < ((b.length : Nat) : Int) := by omega
    simp only [cond_false, w, z1, z2, decide_true, Bool.and_self, cond_true]
    exact ⟨_, rfl⟩
  · exact ⟨true, rfl⟩
def lineS (d : ByteArray) (b : List Int) : List Int := glueFrom d 0 ((linesF b []).1.map lineA) ++ [10]
theorem glue_wt (d : ByteArray) : ∀ (M : List (List Int)) (k : Nat), (glueFrom d k (M.map lineA)).length ≤ wt M
  | [], k => Nat.le_refl _
  | x :: r, k => by
    have h1 := glue_wt d r (k + 1)
    have h3 := dlS_len d k
    have e : (lineA x).ints! = x := rfl
    simp only [List.map_cons, glueFrom, List.length_append, wt, e]; omega
theorem lineS_len (d : ByteArray) (b : List Int) : (lineS d b).length ≤ b.length + 2 := by
  have h1 := glue_wt d (linesF b []).1 0
  have h2 := linesF_wt b []
  simp only [List.length_nil] at h2
  unfold lineS; simp only [List.length_append, List.length_cons, List.length_nil]; omega
theorem F66_eq (k : Nat) (d : ByteArray) (hd : d.size ≤ 8000000) (b : List Int) (hB : isB b) (hb : b.length ≤ 4000000) (hk : b.length + 2 < k) : F66.go k b d = some (F66.r d (lineS d b)) := by
  obtain ⟨e, h15⟩ := F15_eq k b hB (by omega) (by omega)
  have h1 := glue_wt d (linesF b []).1 0
  have h2 := linesF_wt b []
  have h3 := wt_length (linesF b []).1
  simp only [List.length_nil] at h2
  have h65 := F65_eq k d hd ((linesF b []).1.map lineA) (by rw [List.length_map]; omega) (by rw [List.length_map]; omega) (by omega)
  unfold F66.go
  rw [h15]
  simp only [Option.bind_some, h65]
  rfl
def serialS (d : ByteArray) : List (List Int) → List Int
  | [] => []
  | b :: r => lineS d b ++ serialS d r
theorem serialS_len (d : ByteArray) : ∀ L, (serialS d L).length ≤ tot L
  | [] => Nat.le_refl _
  | b :: r => by have h1 := serialS_len d r; have h2 := lineS_len d b; simp only [serialS, List.length_append, tot]; omega
theorem F56_1l (k0 : Nat) (d : ByteArray) (hd : d.size ≤ 8000000) (L : List (List Int)) (hB : ∀ b ∈ L, isB b) (hL : tot L ≤ 2200000) (hk0 : tot L + 2 ≤ k0) : ∀ (k i : Nat) (out : List Int), i ≤ L.length → L.length - i < k → out.length + (serialS d (L.drop i)).length ≤ 8000000 →
    loopN (F56_1.s58 k0) k (F56_1.i58 i (L.map lineA) L.length d out) = some (F56_1.r58 d (out ++ serialS d (L.drop i)))
  | 0, i, out, _, hk, _ => absurd hk (Nat.not_lt_zero _)
  | k + 1, i, out, hi, hk, ho => by
    have hln := tot_len L
    rcases Nat.lt_or_ge i L.length with c | c
    · have h0 : (i : Int) < (L.length : Int) := by omega
      have h0' : (0 : Int) ≤ (i : Int) := by omega
      have h0'' : (i : Int) < ((L.map lineA).length : Int) := by rw [List.length_map]; exact h0
      have hw : IntKind.i64.wrap ((i : Int) + 1) = ((i + 1 : Nat) : Int) := by rw [wrap_id (by omega) (by omega)]; rfl
      have hg : AV.ints! ((L.map lineA).getD i (AV.tuple [])) = L[i] := by rw [getD_in (by rw [List.length_map]; exact c), List.getElem_map]; rfl
      have hm := tot_mem (List.getElem_mem c)
      have h66 := F66_eq k0 d hd L[i] (hB _ (List.getElem_mem c)) (by omega) (by omega)
      rw [List.drop_eq_getElem_cons c, serialS] at ho ⊢
      simp only [List.length_append] at ho
      have b1 : (out ++ lineS d L[i]).length ≤ 8000000 := by simp only [List.length_append]; omega
      have s : F56_1.s58 k0 (F56_1.i58 i (L.map lineA) L.length d out) = some (.inl (F56_1.i58 (i + 1 : Nat) (L.map lineA) L.length d (out ++ lineS d L[i]))) := by
        unfold F56_1.s58 F56_1.go58
        simp only [h0, h0', h0'', decide_true, cond_true, Bool.and_self, Int.toNat_natCast, hg, h66, Option.bind_some, ble1 b1, hw]
      have ih := F56_1l k0 d hd L hB hL hk0 k (i + 1) (out ++ lineS d L[i]) c (by omega) (by simp only [List.length_append]; omega)
      rw [← List.append_assoc]
      exact (loopN_inl s).trans ih
    · have : i = L.length := Nat.le_antisymm hi c
      subst this
      refine loopN_inr ?_
      unfold F56_1.s58 F56_1.go58
      simp only [Int.lt_irrefl, decide_false, cond_false, List.drop_length, serialS, List.append_nil]
theorem F34_eq (k : Nat) (d : ByteArray) (hd : d.size ≤ 8000000) (L : List (List Int)) (hB : ∀ b ∈ L, isB b) (hL : tot L ≤ 2200000) (hk : tot L + 2 ≤ k) : F34.go k (L.map lineA) d = some (F34.r (serialS d L)) := by
  have hln := tot_len L
  have hs := serialS_len d L
  have l : F56_1.l_58 k (F56_1.i58 0 (L.map lineA) L.length d []) = _ := F56_1l k d hd L hB hL hk k 0 [] (Nat.zero_le _) (by omega) (by simp only [List.length_nil, List.drop_zero]; omega)
  rw [List.nil_append, List.drop_zero] at l
  unfold F34.go F56_1.go
  rw [List.length_map, l]
  simp only [Option.bind_some]
theorem F35in (k0 : Nat) (d : ByteArray) (hd : d.size ≤ 8000000) (l : List AV) (x3 x4 : Int) (M : List (List Int)) (hM : wt M ≤ 8000000) : ∀ (k j : Nat) (out : List Int), j ≤ M.length → M.length - j < k → out.length + (glueFrom d j ((M.drop j).map lineA)).length ≤ 100000000000000 →
    loopN (F35.s59802 k0) k (F35.i59802 j d l x3 x4 M.length out (M.map lineA)) = some (F35.r59802 d l x3 x4 (out ++ glueFrom d j ((M.drop j).map lineA)))
  | 0, j, out, _, hk, _ => absurd hk (Nat.not_lt_zero _)
  | k + 1, j, out, hj, hk, ho => by
    have hln := wt_length M
    rcases Nat.lt_or_ge j M.length with c | c
    · have h0 : (j : Int) < (M.length : Int) := by omega
      have h0' : (0 : Int) ≤ (j : Int) := by omega
      have h0'' : (j : Int) < ((M.map lineA).length : Int) := by rw [List.length_map]; exact h0
      have hw : IntKind.i64.wrap ((j : Int) + 1) = ((j + 1 : Nat) : Int) := by rw [wrap_id (by omega) (by omega)]; rfl
      have hg : AV.ints! ((M.map lineA).getD j (AV.tuple [])) = M[j] := by rw [getD_in (by rw [List.length_map]; exact c), List.getElem_map]; rfl
      have el : (lineA M[j]).ints! = M[j] := rfl
      rw [List.drop_eq_getElem_cons c, List.map_cons, glueFrom, el] at ho ⊢
      simp only [List.length_append] at ho
      have s : F35.s59802 k0 (F35.i59802 j d l x3 x4 M.length out (M.map lineA)) = some (.inl (F35.i59802 (j + 1 : Nat) d l x3 x4 M.length (out ++ (dlS d j ++ M[j])) (M.map lineA))) := by
        unfold F35.s59802 F35.go59802
        simp only [h0, h0', h0'', decide_true, cond_true, Bool.and_self, Int.toNat_natCast, hg, empty_str, hw]
        cases j with
        | zero =>
          have e : dlS d 0 = [] := rfl
          have b1 : (out ++ M[0]).length ≤ 100000000000000 := by simp only [List.length_append]; omega
          have g0 : ¬ (((0 : Nat) : Int) > 0) := by omega
          rw [e, List.nil_append]
          simp only [g0, decide_false, cond_false, bleL b1, cond_true]
        | succ j =>
          have g0 : (((j + 1 : Nat) : Int) > 0) := by omega
          simp only [g0, decide_true, cond_true]
          cases hz : d.size == 0
          · have hz' : d.size ≠ 0 := by rw [beq_eq_false_iff_ne] at hz; exact hz
            have e : dlS d (j + 1) = [((d.data.getD (j % d.size) 0).toNat : Int)] := by unfold dlS; rw [hz]; rfl
            have w1 : IntKind.i64.wrap (((j + 1 : Nat) : Int) - 1) = (j : Int) := by rw [wrap_id (by omega) (by omega)]; omega
            have w2 : (((d.size : Nat) : Int) == 0) = false := by rw [beq_eq_false_iff_ne]; omega
            have t : Int.tmod (j : Int) (d.size : Int) = ((j % d.size : Nat) : Int) := rfl
            have hm := Nat.mod_lt j (Nat.pos_of_ne_zero hz')
            have z2 : (0 : Int) ≤ ((j % d.size : Nat) : Int) := by omega
            have z3 : ((j % d.size : Nat) : Int) < (d.size : Int) := by omega
            rw [e] at ho ⊢
            simp only [List.length_cons, List.length_nil] at ho
            have b1 : (out ++ [((d.data.getD (j % d.size) 0).toNat : Int)]).length ≤ 100000000000000 := by simp only [List.length_append, List.length_cons, List.length_nil]; omega
            have b2 : (out ++ [((d.data.getD (j % d.size) 0).toNat : Int)] ++ M[j + 1]).length ≤ 100000000000000 := by simp only [List.length_append, List.length_cons, List.length_nil]; omega
            simp only [Bool.not_false, cond_true, w1, w2, cond_false, t, z2, z3, decide_true, Bool.and_self, Int.toNat_natCast, bleL b1, bleL b2, ← List.append_assoc]
          · have e : dlS d (j + 1) = [] := by unfold dlS; rw [hz]; rfl
            have b1 : (out ++ M[j + 1]).length ≤ 100000000000000 := by simp only [List.length_append]; omega
            rw [e, List.nil_append]
            simp only [Bool.not_true, cond_false, bleL b1, cond_true]
      have ih := F35in k0 d hd l x3 x4 M hM k (j + 1) (out ++ (dlS d j ++ M[j])) c (by omega) (by simp only [List.length_append]; omega)
      rw [← List.append_assoc]
      exact (loopN_inl s).trans ih
    · have : j = M.length := Nat.le_antisymm hj c
      subst this
      refine loopN_inr ?_
      unfold F35.s59802 F35.go59802
      simp only [Int.lt_irrefl, decide_false, cond_false, List.drop_length, List.map_nil, glueFrom, List.append_nil]
theorem F35l (k0 : Nat) (d : ByteArray) (hd : d.size ≤ 8000000) (L : List (List Int)) (hS : ∀ b ∈ L, b.length ≤ 1048576) (hL : tot L ≤ 2200000) (hk0 : tot L + 2 ≤ k0) : ∀ (k i : Nat) (out : List Int), i ≤ L.length → L.length - i < k → out.length + (serialS d (L.drop i)).length ≤ 8000000 →
    loopN (F35.s58 k0) k (F35.i58 d i (L.map lineA) L.length out) = some (F35.r58 (out ++ serialS d (L.drop i)))
  | 0, i, out, _, hk, _ => absurd hk (Nat.not_lt_zero _)
  | k + 1, i, out, hi, hk, ho => by
    have hln := tot_len L
    rcases Nat.lt_or_ge i L.length with c | c
    · have h0 : (i : Int) < (L.length : Int) := by omega
      have h0' : (0 : Int) ≤ (i : Int) := by omega
      have h0'' : (i : Int) < ((L.map lineA).length : Int) := by rw [List.length_map]; exact h0
      have hw : IntKind.i64.wrap ((i : Int) + 1) = ((i + 1 : Nat) : Int) := by rw [wrap_id (by omega) (by omega)]; rfl
      have hg : AV.ints! ((L.map lineA).getD i (AV.tuple [])) = L[i] := by rw [getD_in (by rw [List.length_map]; exact c), List.getElem_map]; rfl
      have hm := tot_mem (List.getElem_mem c)
      have h16 := F16_eq k0 L[i] (hS _ (List.getElem_mem c)) (by omega)
      have h2 := linesF_wt L[i] []
      have h3 := wt_length (linesF L[i] []).1
      simp only [List.length_nil] at h2
      rw [List.drop_eq_getElem_cons c, serialS] at ho ⊢
      simp only [List.length_append] at ho
      have hl : (lineS d L[i]).length = (glueFrom d 0 ((linesF L[i] []).1.map lineA)).length + 1 := by unfold lineS; simp
      have hin : F35.l_59802 k0 (F35.i59802 0 d (L.map lineA) L.length i (linesF L[i] []).1.length out ((linesF L[i] []).1.map lineA)) = some (F35.r59802 d (L.map lineA) L.length i (out ++ glueFrom d 0 ((linesF L[i] []).1.map lineA))) := by
        have := F35in k0 d hd (L.map lineA) L.length i (linesF L[i] []).1 (by omega) k0 0 out (Nat.zero_le _) (by omega) (by rw [List.drop_zero]; omega)
        rw [List.drop_zero] at this
        exact this
      have b1 : (out ++ lineS d L[i]).length ≤ 8000000 := by simp only [List.length_append]; omega
      have e1 : out ++ glueFrom d 0 ((linesF L[i] []).1.map lineA) ++ [10] = out ++ lineS d L[i] := by rw [List.append_assoc]; rfl
      have s : F35.s58 k0 (F35.i58 d i (L.map lineA) L.length out) = some (.inl (F35.i58 d (i + 1 : Nat) (L.map lineA) L.length (out ++ lineS d L[i]))) := by
        unfold F35.s58 F35.go58
        simp only [h0, h0', h0'', decide_true, cond_true, Bool.and_self, Int.toNat_natCast, hg, h16, Option.bind_some]
        rw [show ((((linesF L[i] []).1.map lineA).length : Nat) : Int) = (((linesF L[i] []).1.length : Nat) : Int) by rw [List.length_map], hin]
        simp only [Option.bind_some, e1, ble1 b1, cond_true, hw]
      have ih := F35l k0 d hd L hS hL hk0 k (i + 1) (out ++ lineS d L[i]) c (by omega) (by simp only [List.length_append]; omega)
      rw [← List.append_assoc]
      exact (loopN_inl s).trans ih
    · have : i = L.length := Nat.le_antisymm hi c
      subst this
      refine loopN_inr ?_
      unfold F35.s58 F35.go58
      simp only [Int.lt_irrefl, decide_false, cond_false, List.drop_length, serialS, List.append_nil]
theorem F35_eq (k : Nat) (d : ByteArray) (hd : d.size ≤ 8000000) (L : List (List Int)) (hS : ∀ b ∈ L, b.length ≤ 1048576) (hL : tot L ≤ 2200000) (hk : tot L + 2 ≤ k) : F35.go k (L.map lineA) d = some (F35.r (serialS d L)) := by
  have hln := tot_len L
  have hs := serialS_len d L
  have l : F35.l_58 k (F35.i58 d 0 (L.map lineA) L.length []) = _ := F35l k d hd L hS hL hk k 0 [] (Nat.zero_le _) (by omega) (by simp only [List.length_nil, List.drop_zero]; omega)
  rw [List.nil_append, List.drop_zero] at l
  unfold F35.go
  rw [List.length_map, l]
  simp only [Option.bind_some]
/-- the arguments as lists of bytes -/
theorem rows_of_fit : ∀ (a : List AV), (∀ e ∈ a, Fit (.roI false .u8) e) → ∃ L : List (List Int), a = L.map lineA ∧ (∀ b ∈ L, isB b) ∧ avBulks a + L.length = tot L
  | [], _ => ⟨[], rfl, (fun _ h => nomatch h), rfl⟩
  | x :: r, h => by
    obtain ⟨l, rfl, _, hw⟩ := h x (List.mem_cons_self ..)
    obtain ⟨L, rfl, hB, hb⟩ := rows_of_fit r (fun e he => h e (List.mem_cons_of_mem _ he))
    refine ⟨l :: L, rfl, fun b hb => ?_, ?_⟩
    · rcases List.mem_cons.1 hb with e | e
      · subst e; exact isB_of_wf hw
      · exact hB b e
    · simp only [avBulks, avBulk, lstBulk, List.length_cons, tot]; omega
theorem textPastes (a : List AV) (d : ByteArray) (hf : ∀ e ∈ a, Fit (.roI false .u8) e) (hbk : avBulks [(.ro false (.A (.roI false .u8) 1 a)), (.v (.string d))] ≤ 1048576) : ∃ k, F7.go k a d = some ((true, ()), (), ()) := by
  obtain ⟨L, rfl, hB, hb⟩ := rows_of_fit a hf
  have hln := tot_len L
  simp only [avBulks, avBulk, lstBulk] at hbk
  have hbl : ∀ (M : List (List Int)), avBulks (M.map lineA) + M.length = tot M := by
    intro M
    induction M with
    | nil => rfl
    | cons x r ih => simp only [List.map_cons, avBulks, lineA, avBulk, lstBulk, List.length_cons, tot] at ih ⊢; omega
  have hmem : ∀ (M : List (List Int)), ∀ b ∈ M, b.length + 1 ≤ avBulks (M.map lineA) := by
    intro M
    induction M with
    | nil => intro b h; cases h
    | cons x r ih =>
      intro b h
      simp only [List.map_cons, avBulks, lineA, avBulk, lstBulk] at ih ⊢
      rcases List.mem_cons.1 h with e | e
      · subst e; omega
      · have := ih b e; omega
  have hlb : ∀ (M : List (List Int)), M.length ≤ avBulks (M.map lineA) := by
    intro M
    induction M with
    | nil => exact Nat.le_refl _
    | cons x r ih => simp only [List.map_cons, avBulks, lineA, avBulk, lstBulk, List.length_cons] at ih ⊢; omega
  have hl1 := hlb L
  have hL : tot L ≤ 2200000 := by omega
  have hS : ∀ b ∈ L, b.length ≤ 1048576 := fun b h => by have := hmem L b h; omega
  refine ⟨tot L + 4 + 200, ?_⟩
  have h3 := F13_eq (tot L + 4)
  unfold F7.go
  rw [F32_eq _ d (by omega) L hB (by omega) (by omega), F33_eq _ d (by omega) L hS hL (by omega), F34_eq _ d (by omega) L hB hL (by omega), F35_eq _ d (by omega) L hS hL (by omega)]
  simp only [Option.bind_some, F12_eq _ _ _ rfl, cond_true, h3]
end Go.Proofs.Try.S

namespace Go.Proofs.Try.S
open Go Go.Ev
/-! split -/
theorem ble16 {n : Nat} (h : n ≤ 8000000) : (Nat.ble (n * 16) 140737488355328 && Nat.ble n 9223372036854775807) = true := by
  rw [Nat.ble_eq_true_of_le (by omega), Nat.ble_eq_true_of_le (by omega)]; rfl
def chF {α : Type} (n : Nat) : Nat → List α → List (List α)
  | 0, _ => []
  | f + 1, l => bif l.isEmpty then [] else l.take n :: chF n f (l.drop n)
theorem chF_nil {α : Type} (n f : Nat) : chF n f ([] : List α) = [] := by cases f <;> rfl
theorem chF_cons {α : Type} (n f : Nat) (l : List α) (h : 0 < l.length) : chF n (f + 1) l = l.take n :: chF n f (l.drop n) := by
  cases l with
  | nil => exact absurd h (Nat.lt_irrefl _)
  | cons x r => rfl
theorem chF_len {α : Type} (n : Nat) (hn : 1 ≤ n) : ∀ (f : Nat) (l : List α), (chF n f l).length ≤ l.length
  | 0, l => Nat.zero_le _
  | f + 1, l => by
    rcases Nat.eq_zero_or_pos l.length with h | h
    · have : l = [] := List.length_eq_zero_iff.1 h
      subst this; rw [chF_nil]; exact Nat.le_refl _
    · rw [chF_cons n f l h]
      have := chF_len n hn f (l.drop n)
      rw [List.length_drop] at this
      rw [List.length_cons]; omega
theorem take_min {α : Type} (l : List α) (n : Nat) : l.take (min l.length n) = l.take n := by
  rcases Nat.le_total l.length n with h | h
  · rw [Nat.min_eq_left h, List.take_length, List.take_of_length_le h]
  · rw [Nat.min_eq_right h]
theorem drop_min {α : Type} (l : List α) (n : Nat) : l.drop (min l.length n) = l.drop n := by
  rcases Nat.le_total l.length n with h | h
  · rw [Nat.min_eq_left h, List.drop_length, List.drop_eq_nil_of_le h]
  · rw [Nat.min_eq_right h]
theorem min_int (m n : Nat) : (bif decide ((m : Int) < (n : Int)) then (m : Int) else (n : Int)) = ((min m n : Nat) : Int) := by
  by_cases h : m < n
  · have : (m : Int) < (n : Int) := by omega
    simp only [this, decide_true, cond_true]; omega
  · have : ¬ (m : Int) < (n : Int) := by omega
    simp only [this, decide_false, cond_false]; omega
/-- by bytes -/
theorem F29b (k0 : Nat) (n : Nat) (hn : 1 ≤ n) (pre : ByteArray) : ∀ (k f : Nat) (b : List Int) (O : List (List Int)), b.length ≤ 8000000 → b.length < k → b.length ≤ f → O.length ≤ 677 →
    loopN (F29.s246 k0) k (F29.i246 b n pre (O.map lineA)) = some (F29.r246 pre ((O ++ (chF n f b).take (677 - O.length)).map lineA))
  | 0, f, b, O, _, hk, _, _ => absurd hk (Nat.not_lt_zero _)
  | k + 1, f, b, O, hb, hk, hf, hO => by
    rcases Nat.eq_zero_or_pos b.length with h | h
    · have : b = [] := List.length_eq_zero_iff.1 h
      subst this
      refine loopN_inr ?_
      rw [chF_nil, List.take_nil, List.append_nil]
      unfold F29.s246 F29.go246
      rfl
    · have d0 : ((b.length : Nat) : Int) > 0 := by omega
      by_cases q : O.length < 677
      · match f, hf with
        | 0, hf => omega
        | f + 1, hf =>
        have d1 : (((O.map lineA).length : Nat) : Int) < 677 := by rw [List.length_map]; omega
        have z1 : (0 : Int) ≤ ((min b.length n : Nat) : Int) := by omega
        have z2 : ((min b.length n : Nat) : Int) ≤ ((b.length : Nat) : Int) := by omega
        have h48 := F48_1_eq k0 (b.take n) (by rw [List.length_take]; omega)
        have e1 : O.map lineA ++ [AV.ro false (Lst.I IntKind.u8 (b.take n))] = (O ++ [b.take n]).map lineA := by simp [lineA]
        have b1 : ((O ++ [b.take n]).map lineA).length ≤ 8000000 := by simp; omega
        have s : F29.s246 k0 (F29.i246 b n pre (O.map lineA)) = some (.inl (F29.i246 (b.drop n) n pre ((O ++ [b.take n]).map lineA))) := by
          unfold F29.s246 F29.go246
          simp only [d0, d1, decide_true, cond_true, min_int, z1, z2, Bool.and_self, Int.toNat_natCast, take_min, drop_min, h48, Option.bind_some, e1, ble24 b1]
        have hl : (b.drop n).length = b.length - n := List.length_drop
        have ih := F29b k0 n hn pre k f (b.drop n) (O ++ [b.take n]) (by omega) (by omega) (by omega) (by simp; omega)
        rw [chF_cons n f b h]
        have e2 : 677 - O.length = (677 - (O ++ [b.take n]).length) + 1 := by simp only [List.length_append, List.length_cons, List.length_nil]; omega
        rw [e2, List.take_succ_cons]
        rw [List.append_assoc, List.singleton_append] at ih
        exact (loopN_inl s).trans ih
      · have d1 : ¬ (((O.map lineA).length : Nat) : Int) < 677 := by rw [List.length_map]; omega
        have e2 : 677 - O.length = 0 := by omega
        refine loopN_inr ?_
        rw [e2, List.take_zero, List.append_nil]
        unfold F29.s246 F29.go246
        simp only [d0, d1, decide_true, cond_true, decide_false, cond_false]
theorem F30b (k0 : Nat) (n : Int) (hn : 1 ≤ n) (hn2 : i64 n) (pre : ByteArray) (b : List Int) (hb : b.length ≤ 8000000) : ∀ (k f i : Nat) (O : List (List Int)), i ≤ b.length → b.length - i < k → b.length - i ≤ f → O.length ≤ i →
    loopN (F30.s490 k0) k (F30.i490 i b n pre (O.map lineA)) = some (F30.r490 pre ((O ++ chF n.toNat f (b.drop i)).map lineA))
  | 0, f, i, O, _, hk, _, _ => absurd hk (Nat.not_lt_zero _)
  | k + 1, f, i, O, hi, hk, hf, hO => by
    rcases Nat.lt_or_ge i b.length with c | c
    · match f, hf with
      | 0, hf => omega
      | f + 1, hf =>
      obtain ⟨n1, n2⟩ := hn2
      have h0 : (i : Int) < (b.length : Int) := by omega
      have h0' : (0 : Int) ≤ (i : Int) := by omega
      have hlt : 0 < (b.drop i).length := by rw [List.length_drop]; omega
      have hld : (b.drop i).length = b.length - i := List.length_drop
      have w1 : IntKind.i64.wrap ((b.length : Int) - (i : Int)) = (b.length : Int) - (i : Int) := wrap_id (by omega) (by omega)
      rw [chF_cons n.toNat f (b.drop i) hlt]
      have step : ∀ m : Nat, i < m → m ≤ b.length → (b.take m).drop i = (b.drop i).take n.toNat → b.drop m = (b.drop i).drop n.toNat →
          F30.s490 k0 (F30.i490 i b n pre (O.map lineA)) = some (.inl (F30.i490 m b n pre ((O ++ [(b.drop i).take n.toNat]).map lineA))) →
          loopN (F30.s490 k0) (k + 1) (F30.i490 i b n pre (O.map lineA)) = some (F30.r490 pre ((O ++ (b.drop i).take n.toNat :: chF n.toNat f ((b.drop i).drop n.toNat)).map lineA)) := by
        intro m h1 h2 _ h4 hs
        have ih := F30b k0 n hn ⟨n1, n2⟩ pre b hb k f m (O ++ [(b.drop i).take n.toNat]) h2 (by omega) (by omega) (by simp; omega)
        rw [List.append_assoc, List.singleton_append, h4] at ih
        exact (loopN_inl hs).trans ih
      have e1 : O.map lineA ++ [AV.ro false (Lst.I IntKind.u8 ((b.drop i).take n.toNat))] = (O ++ [(b.drop i).take n.toNat]).map lineA := by simp [lineA]
      have b1 : ((O ++ [(b.drop i).take n.toNat]).map lineA).length ≤ 8000000 := by simp; omega
      have b2 : ((b.drop i).take n.toNat).length ≤ 8000000 := by rw [List.length_take]; omega
      by_cases q : (b.length : Int) - (i : Int) > n
      · have hm : ((i : Int) + n) = ((i + n.toNat : Nat) : Int) := by omega
        have w2 : IntKind.i64.wrap ((i : Int) + n) = ((i + n.toNat : Nat) : Int) := by rw [wrap_id (by omega) (by omega)]; exact hm
        have t1 : (b.take (i + n.toNat)).drop i = (b.drop i).take n.toNat := by rw [List.drop_take]; congr 1; omega
        refine step (i + n.toNat) (by omega) (by omega) t1 (by rw [List.drop_drop]) ?_
        have z1 : (0 : Int) ≤ ((i + n.toNat : Nat) : Int) := by omega
        have z2 : ((i + n.toNat : Nat) : Int) ≤ (b.length : Int) := by omega
        have z3 : (i : Int) ≤ ((i + n.toNat : Nat) : Int) := by omega
        unfold F30.s490 F30.go490
        simp only [h0, h0', decide_true, cond_true, w1, q, w2, z1, z2, z3, Bool.and_self, Int.toNat_natCast, t1, ble1 b2, e1, ble24 b1]
      · have w2 : IntKind.i64.wrap ((i : Int) + ((b.length : Int) - (i : Int))) = ((b.length : Nat) : Int) := by rw [wrap_id (by omega) (by omega)]; omega
        have t1 : (b.take b.length).drop i = (b.drop i).take n.toNat := by rw [List.take_length, List.take_of_length_le (by rw [List.length_drop]; omega)]
        refine step b.length (by omega) (Nat.le_refl _) t1 (by rw [List.drop_length, List.drop_eq_nil_of_le (by rw [List.length_drop]; omega)]) ?_
        have z1 : (0 : Int) ≤ ((b.length : Nat) : Int) := by omega
        have z3 : (i : Int) ≤ ((b.length : Nat) : Int) := by omega
        unfold F30.s490 F30.go490
        simp only [h0, h0', decide_true, cond_true, w1, q, decide_false, cond_false, w2, z1, z3, Int.le_refl, Bool.and_self, Int.toNat_natCast, t1, ble1 b2, e1, ble24 b1]
    · have : i = b.length := Nat.le_antisymm hi c
      subst this
      refine loopN_inr ?_
      rw [List.drop_length, chF_nil, List.append_nil]
      unfold F30.s490 F30.go490
      simp only [Int.lt_irrefl, decide_false, cond_false]
/-- by lines -/
theorem F29p (k0 : Nat) (n : Nat) (hn : 1 ≤ n) (pre : ByteArray) (L : List (List Int)) (hL : L.length ≤ 8000000) (hfl : L.flatten.length ≤ 8000000) (hk0 : L.length < k0) : ∀ (k f off len : Nat) (O : List (List Int)), off + len = L.length → len < k → len ≤ f → O.length ≤ 677 →
    loopN (F29.s490 k0) k (F29.i490 (off, len) n pre (L.map lineA) (O.map lineA)) = some (F29.r490 pre ((O ++ ((chF n f (L.drop off)).map List.flatten).take (677 - O.length)).map lineA))
  | 0, f, off, len, O, _, hk, _, _ => absurd hk (Nat.not_lt_zero _)
  | k + 1, f, off, 0, O, hl, hk, hf, hO => by
    refine loopN_inr ?_
    rw [List.drop_eq_nil_of_le (by omega), chF_nil, List.map_nil, List.take_nil, List.append_nil]
    unfold F29.s490 F29.go490
    rfl
  | k + 1, f, off, len + 1, O, hl, hk, hf, hO => by
    have d0 : ((len + 1 : Nat) : Int) > 0 := by omega
    by_cases q : O.length < 677
    · match f, hf with
      | f + 1, hf =>
      have hld : (L.drop off).length = len + 1 := by rw [List.length_drop]; omega
      have d1 : (((O.map lineA).length : Nat) : Int) < 677 := by rw [List.length_map]; omega
      have z1 : (0 : Int) ≤ ((min (len + 1) n : Nat) : Int) := by omega
      have z2 : ((min (len + 1) n : Nat) : Int) ≤ ((len + 1 : Nat) : Int) := by omega
      have h56 := F56_eq k0 L off (min (len + 1) n) (by omega) hL hfl (by omega)
      have et : (L.drop off).take (min (len + 1) n) = (L.drop off).take n := by rw [← hld, take_min]
      have ed : L.drop (off + min (len + 1) n) = (L.drop off).drop n := by rw [← List.drop_drop, ← hld, drop_min]
      rw [et] at h56
      have e1 : O.map lineA ++ [AV.ro false (Lst.I IntKind.u8 ((L.drop off).take n).flatten)] = (O ++ [((L.drop off).take n).flatten]).map lineA := by simp [lineA]
      have b1 : ((O ++ [((L.drop off).take n).flatten]).map lineA).length ≤ 8000000 := by simp; omega
      have s : F29.s490 k0 (F29.i490 (off, len + 1) n pre (L.map lineA) (O.map lineA)) = some (.inl (F29.i490 (off + min (len + 1) n, len + 1 - min (len + 1) n) n pre (L.map lineA) ((O ++ [((L.drop off).take n).flatten]).map lineA))) := by
        unfold F29.s490 F29.go490
        simp only [d0, d1, decide_true, cond_true, min_int, z1, z2, Bool.and_self, Int.toNat_natCast, Nat.add_zero, Nat.sub_zero, h56, Option.bind_some, e1, ble24 b1]
      have ih := F29p k0 n hn pre L hL hfl hk0 k f (off + min (len + 1) n) (len + 1 - min (len + 1) n) (O ++ [((L.drop off).take n).flatten]) (by omega) (by omega) (by omega) (by simp; omega)
      rw [chF_cons n f (L.drop off) (by omega), List.map_cons]
      have e2 : 677 - O.length = (677 - (O ++ [((L.drop off).take n).flatten]).length) + 1 := by simp only [List.length_append, List.length_cons, List.length_nil]; omega
      rw [e2, List.take_succ_cons]
      rw [List.append_assoc, List.singleton_append, ed] at ih
      exact (loopN_inl s).trans ih
    · have d1 : ¬ (((O.map lineA).length : Nat) : Int) < 677 := by rw [List.length_map]; omega
      have e2 : 677 - O.length = 0 := by omega
      refine loopN_inr ?_
      rw [e2, List.take_zero, List.append_nil]
      unfold F29.s490 F29.go490
      simp only [d0, d1, decide_true, cond_true, decide_false, cond_false]
theorem F30p (k0 : Nat) (n : Nat) (hn : 1 ≤ n) (pre : ByteArray) (L : List (List Int)) (hL : L.length ≤ 8000000) (hfl : L.flatten.length ≤ 8000000) (hk0 : L.length < k0) : ∀ (k f off len : Nat) (O : List (List Int)), off + len = L.length → len < k → len ≤ f → O.length ≤ off →
    loopN (F30.s494 k0) k (F30.i494 (off, len) n pre (L.map lineA) (O.map lineA)) = some (F30.r494 pre ((O ++ (chF n f (L.drop off)).map List.flatten).map lineA))
  | 0, f, off, len, O, _, hk, _, _ => absurd hk (Nat.not_lt_zero _)
  | k + 1, f, off, 0, O, hl, hk, hf, hO => by
    refine loopN_inr ?_
    rw [List.drop_eq_nil_of_le (by omega), chF_nil, List.map_nil, List.append_nil]
    unfold F30.s494 F30.go494
    rfl
  | k + 1, f, off, len + 1, O, hl, hk, hf, hO => by
    have d0 : ((len + 1 : Nat) : Int) > 0 := by omega
    match f, hf with
    | f + 1, hf =>
    have hld : (L.drop off).length = len + 1 := by rw [List.length_drop]; omega
    have e1 : O.map lineA ++ [AV.ro false (Lst.I IntKind.u8 ((L.drop off).take n).flatten)] = (O ++ [((L.drop off).take n).flatten]).map lineA := by simp [lineA]
    have b1 : ((O ++ [((L.drop off).take n).flatten]).map lineA).length ≤ 8000000 := by simp; omega
    have step : ∀ m : Nat, 1 ≤ m → m ≤ len + 1 → (L.drop off).take m = (L.drop off).take n → (L.drop off).drop m = (L.drop off).drop n →
        F30.s494 k0 (F30.i494 (off, len + 1) n pre (L.map lineA) (O.map lineA)) = some (.inl (F30.i494 (off + m, len + 1 - m) n pre (L.map lineA) ((O ++ [((L.drop off).take n).flatten]).map lineA))) →
        loopN (F30.s494 k0) (k + 1) (F30.i494 (off, len + 1) n pre (L.map lineA) (O.map lineA)) = some (F30.r494 pre ((O ++ (chF n (f + 1) (L.drop off)).map List.flatten).map lineA)) := by
      intro m h1 h2 ht hd hs
      have ih := F30p k0 n hn pre L hL hfl hk0 k f (off + m) (len + 1 - m) (O ++ [((L.drop off).take n).flatten]) (by omega) (by omega) (by omega) (by simp; omega)
      rw [chF_cons n f (L.drop off) (by omega), List.map_cons]
      rw [List.append_assoc, List.singleton_append, ← List.drop_drop, hd] at ih
      exact (loopN_inl hs).trans ih
    have z0 : (0 : Int) ≤ ((len + 1 : Nat) : Int) := by omega
    by_cases q : ((len + 1 : Nat) : Int) > (n : Int)
    · have z1 : (0 : Int) ≤ (n : Int) := by omega
      have z2 : (n : Int) ≤ ((len + 1 : Nat) : Int) := by omega
      have h61 := F61_eq k0 L off n (by omega) hL hfl (by omega)
      refine step n hn (by omega) rfl rfl ?_
      unfold F30.s494 F30.go494
      simp only [d0, q, decide_true, cond_true, z1, z2, Bool.and_self, Int.toNat_natCast, Nat.add_zero, Nat.sub_zero, h61, Option.bind_some, e1, ble24 b1]
    · have h61 := F61_eq k0 L off (len + 1) (by omega) hL hfl (by omega)
      have ht : (L.drop off).take (len + 1) = (L.drop off).take n := by rw [List.take_of_length_le (by omega), List.take_of_length_le (by omega)]
      rw [ht] at h61
      refine step (len + 1) (by omega) (Nat.le_refl _) ht (by rw [List.drop_eq_nil_of_le (by omega), List.drop_eq_nil_of_le (by omega)]) ?_
      unfold F30.s494 F30.go494
      simp only [d0, q, decide_true, decide_false, cond_false, cond_true, z0, Int.le_refl, Bool.and_self, Int.toNat_natCast, Nat.add_zero, Nat.sub_zero, h61, Option.bind_some, e1, ble24 b1]
/-! the names -/
theorem names_ex (k0 : Nat) (pre : ByteArray) (hp : pre.size ≤ 8000000) (n : Nat) (hn : n ≤ 8000000) (out : List AV) : ∀ (k i : Nat) (N : List ByteArray), i ≤ n → n - i < k → N.length = i →
    ∃ N' : List ByteArray, N'.length = n ∧ loopN (F29.s1018 k0) k (F29.i1018 i pre n N out) = some (F29.r1018 out N')
  | 0, i, N, _, hk, _ => absurd hk (Nat.not_lt_zero _)
  | k + 1, i, N, hi, hk, hN => by
    rcases Nat.lt_or_ge i n with c | c
    · have h0 : (i : Int) < (n : Int) := by omega
      have hw : IntKind.i64.wrap ((i : Int) + 1) = ((i + 1 : Nat) : Int) := by rw [wrap_id (by omega) (by omega)]; rfl
      have hs2 : ∀ x y : Int, (strOf [x, y]).size = 2 := fun x y => rfl
      have hp2 : pre.size + 2 ≤ 9223372036854775807 := by omega
      have s : ∃ z, F29.s1018 k0 (F29.i1018 i pre n N out) = some (.inl (F29.i1018 (i + 1 : Nat) pre n (N ++ [z]) out)) := by
        refine ⟨{ data := { toList := Array.toList (ByteArray.data pre) ++ Array.toList (ByteArray.data (strOf [IntKind.u8.wrap (IntKind.i64.wrap (97 + IntKind.i64.wrap (Int.tdiv i 26))), IntKind.u8.wrap (IntKind.i64.wrap (97 + Int.tmod i 26))])) } }, ?_⟩
        unfold F29.s1018 F29.go1018
        simp only [h0, decide_true, cond_true, hs2, hp2]
        have b1 : ∀ z : ByteArray, (N ++ [z]).length ≤ 8000000 := fun z => by simp; omega
        simp only [ble16 (b1 _), cond_true, hw]
      obtain ⟨z, s⟩ := s
      obtain ⟨N', hl, ih⟩ := names_ex k0 pre hp n hn out k (i + 1) (N ++ [z]) c (by omega) (by simp; omega)
      exact ⟨N', hl, (loopN_inl s).trans ih⟩
    · have : i = n := Nat.le_antisymm hi c
      subst this
      refine ⟨N, hN, loopN_inr ?_⟩
      unfold F29.s1018 F29.go1018
      simp only [Int.lt_irrefl, decide_false, cond_false]
theorem F31_refl (k : Nat) (L : List ByteArray) (hk : L.length < k) (hL : L.length ≤ 8000000) : F31.go k L L = some (F31.r true) := by
  have lp : ∀ (k0 k i : Nat), i ≤ L.length → L.length - i < k → loopN (F31.s58 k0) k (F31.i58 i L L L.length) = some F31.r58_1 := by
    intro k0 k
    induction k with
    | zero => intro i _ h; exact absurd h (Nat.not_lt_zero _)
    | succ k ih =>
      intro i hi hk
      rcases Nat.lt_or_ge i L.length with c | c
      · have h0 : (i : Int) < (L.length : Int) := by omega
        have h0' : (0 : Int) ≤ (i : Int) := by omega
        have hw : IntKind.i64.wrap ((i : Int) + 1) = ((i + 1 : Nat) : Int) := by rw [wrap_id (by omega) (by omega)]; rfl
        have s : F31.s58 k0 (F31.i58 i L L L.length) = some (.inl (F31.i58 (i + 1 : Nat) L L L.length)) := by
          unfold F31.s58 F31.go58
          simp only [h0, h0', decide_true, cond_true, Bool.and_self, beq_self_eq_true, Bool.not_true, cond_false, hw]
        exact (loopN_inl s).trans (ih (i + 1) c (by omega))
      · have : i = L.length := Nat.le_antisymm hi c
        subst this
        refine loopN_inr ?_
        unfold F31.s58 F31.go58
        simp only [Int.lt_irrefl, decide_false, cond_false]
  have l : F31.l_58 k (F31.i58 0 L L L.length) = _ := lp k k 0 (Nat.zero_le _) (by omega)
  have hne : (((L.length : Nat) : Int) != ((L.length : Nat) : Int)) = false := by simp
  unfold F31.go
  simp only [hne, cond_false]
  rw [l]; rfl
theorem F17_refl (k : Nat) (A : List AV) (hk : A.length < k) (hA : A.length ≤ 8000000) : F17.go k A A = some (F17.r true) := by
  have lp : ∀ (k0 k i : Nat), i ≤ A.length → A.length - i < k → loopN (F17.s58 k0) k (F17.i58 i A A A.length) = some F17.r58_1 := by
    intro k0 k
    induction k with
    | zero => intro i _ h; exact absurd h (Nat.not_lt_zero _)
    | succ k ih =>
      intro i hi hk
      rcases Nat.lt_or_ge i A.length with c | c
      · have h0 : (i : Int) < (A.length : Int) := by omega
        have h0' : (0 : Int) ≤ (i : Int) := by omega
        have hw : IntKind.i64.wrap ((i : Int) + 1) = ((i + 1 : Nat) : Int) := by rw [wrap_id (by omega) (by omega)]; rfl
        have s : F17.s58 k0 (F17.i58 i A A A.length) = some (.inl (F17.i58 (i + 1 : Nat) A A A.length)) := by
          unfold F17.s58 F17.go58
          simp only [h0, h0', decide_true, cond_true, Bool.and_self, F12_eq _ _ _ rfl, Option.bind_some, Bool.not_true, cond_false, hw]
        exact (loopN_inl s).trans (ih (i + 1) c (by omega))
      · have : i = A.length := Nat.le_antisymm hi c
        subst this
        refine loopN_inr ?_
        unfold F17.s58 F17.go58
        simp only [Int.lt_irrefl, decide_false, cond_false]
  have l : F17.l_58 k (F17.i58 0 A A A.length) = _ := lp k k 0 (Nat.zero_le _) (by omega)
  have hne : (((A.length : Nat) : Int) != ((A.length : Nat) : Int)) = false := by simp
  unfold F17.go
  simp only [hne, cond_false]
  rw [l]; rfl
/-- what both answer: an error, or pieces with their names -/
def Ans (k : Nat) (b : List Int) (l s : Int) (pre : ByteArray) : Prop :=
  (∃ e, F29.go k b l s pre = some (F29.r_0 e) ∧ F30.go k b l s pre = some (F30.r_0 e)) ∨
  (∃ (N : List ByteArray) (O : List AV), N.length ≤ 676 ∧ O.length ≤ 676 ∧ F29.go k b l s pre = some (F29.r_1 0 N O) ∧ F30.go k b l s pre = some (F30.r_1 0 N O))
theorem split_ans (k : Nat) (b : List Int) (l s : Int) (pre : ByteArray) (hB : isB b) (hb : b.length ≤ 1048576) (hl : i64 l) (hs : i64 s) (hp : pre.size ≤ 8000000) (hk : b.length + 1000 < k) : Ans k b l s pre := by
  have names : ∀ O : List (List Int), O.length ≤ 676 → ∃ N : List ByteArray, N.length ≤ 676 ∧ F29.l_1018 k (F29.i1018 0 pre O.length [] (O.map lineA)) = some (F29.r1018 (O.map lineA) N) ∧ F30.l_1018 k (F30.i1018 0 pre O.length [] (O.map lineA)) = some (F30.r1018 (O.map lineA) N) := by
    intro O hO
    obtain ⟨N, hN, h⟩ := names_ex k pre hp O.length (by omega) (O.map lineA) k 0 [] (Nat.zero_le _) (by omega) rfl
    exact ⟨N, by omega, h, h⟩
  have hpl := piecesF_len b []
  simp only [List.length_nil] at hpl
  have hpf : (piecesF b []).flatten.length = b.length := by rw [piecesF_flat]; simp
  -- from pieces to the answer
  have fin : ∀ X : List (List Int), X.length ≤ 8000000 →
      ((∃ e, (bif decide ((((X.take 677).map lineA).length : Int) > 676) then some (F29.r_0 34) else (F29.l_1018 k (F29.i1018 0 pre ((X.take 677).map lineA).length [] ((X.take 677).map lineA))).bind fun y => some (F29.r_1 0 y.2.1.2.1 y.2.1.1)) = some (F29.r_0 e) ∧
          (bif decide (((X.map lineA).length : Int) > 676) then some (F30.r_0 34) else (F30.l_1018 k (F30.i1018 0 pre (X.map lineA).length [] (X.map lineA))).bind fun y => some (F30.r_1 0 y.2.1.2.1 y.2.1.1)) = some (F30.r_0 e)) ∨
        ∃ (N : List ByteArray) (O : List AV), N.length ≤ 676 ∧ O.length ≤ 676 ∧
          (bif decide ((((X.take 677).map lineA).length : Int) > 676) then some (F29.r_0 34) else (F29.l_1018 k (F29.i1018 0 pre ((X.take 677).map lineA).length [] ((X.take 677).map lineA))).bind fun y => some (F29.r_1 0 y.2.1.2.1 y.2.1.1)) = some (F29.r_1 0 N O) ∧
          (bif decide (((X.map lineA).length : Int) > 676) then some (F30.r_0 34) else (F30.l_1018 k (F30.i1018 0 pre (X.map lineA).length [] (X.map lineA))).bind fun y => some (F30.r_1 0 y.2.1.2.1 y.2.1.1)) = some (F30.r_1 0 N O)) := by
    intro X hX
    by_cases q : X.length ≤ 676
    · right
      obtain ⟨N, hN, h1, h2⟩ := names X q
      have ht : X.take 677 = X := List.take_of_length_le (by omega)
      have d : ¬ (((X.map lineA).length : Nat) : Int) > 676 := by rw [List.length_map]; omega
      refine ⟨N, X.map lineA, hN, by rw [List.length_map]; exact q, ?_, ?_⟩
      · rw [ht]
        simp only [d, decide_false, cond_false]
        rw [List.length_map, h1]; rfl
      · simp only [d, decide_false, cond_false]
        rw [List.length_map, h2]; rfl
    · left
      have d : (((X.map lineA).length : Nat) : Int) > 676 := by rw [List.length_map]; omega
      have d' : ((((X.take 677).map lineA).length : Nat) : Int) > 676 := by rw [List.length_map, List.length_take]; omega
      refine ⟨34, ?_, ?_⟩
      · simp only [d', decide_true, cond_true]
      · simp only [d, decide_true, cond_true]
  unfold Ans
  by_cases c1 : l = 0
  · subst c1
    by_cases c2 : 0 < s
    · -- by bytes
      have hsn : ((s.toNat : Nat) : Int) = s := by omega
      have hlen := chF_len s.toNat (by omega) b.length b
      have h29 := F29b k s.toNat (by omega) pre k b.length b [] (by omega) (by omega) (Nat.le_refl _) (by simp)
      rw [List.nil_append, List.length_nil, Nat.sub_zero, hsn] at h29
      have h29 : F29.l_246 k (F29.i246 b s pre []) = _ := h29
      have h30 := F30b k s (by omega) hs pre b (by omega) k b.length 0 [] (Nat.zero_le _) (by omega) (by omega) (by simp)
      rw [List.nil_append, List.drop_zero] at h30
      have h30 : F30.l_490 k (F30.i490 0 b s pre []) = _ := h30
      have d1 : ¬ ((0 : Int) < 0) := by omega
      have d2 : ¬ (s < 0) := by omega
      have d3 : ¬ ((0 : Int) > 0) := by omega
      have d4 : s > 0 := c2
      have e0 : ((0 : Int) == 0) = true := rfl
      unfold F29.go F30.go
      simp only [d1, d2, d3, d4, e0, decide_true, decide_false, cond_true, cond_false, show (false == true) = false from rfl]
      rw [h29, h30]
      simp only [Option.bind_some]
      exact fin _ (by omega)
    · -- neither
      left
      refine ⟨22, ?_, ?_⟩
      · unfold F29.go
        have d1 : ¬ ((0 : Int) < 0) := by omega
        have d3 : ¬ ((0 : Int) > 0) := by omega
        have d4 : ¬ s > 0 := c2
        by_cases d2 : s < 0
        · simp only [d1, d2, decide_true, decide_false, cond_true, cond_false]
        · simp only [d1, d2, d3, d4, decide_false, cond_true, cond_false, show (false == false) = true from rfl]
      · unfold F30.go
        have d3 : ¬ ((0 : Int) > 0) := by omega
        have d4 : ¬ s > 0 := c2
        have e0 : ((0 : Int) == 0) = true := rfl
        cases e1 : s == 0
        · simp only [d3, d4, e0, e1, decide_false, cond_true, cond_false]
        · simp only [d3, d4, e0, e1, decide_false, cond_true, cond_false, Bool.not_false]
  · have e0 : (l == 0) = false := by rw [beq_eq_false_iff_ne]; exact c1
    by_cases c2 : s = 0 ∧ 0 < l
    · obtain ⟨c2, c3⟩ := c2
      subst c2
      have hln : ((l.toNat : Nat) : Int) = l := by omega
      have hlen := chF_len l.toNat (by omega) (piecesF b []).length (piecesF b [])
      have h29 := F29p k l.toNat (by omega) pre (piecesF b []) (by omega) (by omega) (by omega) k (piecesF b []).length 0 (piecesF b []).length [] (by omega) (by omega) (Nat.le_refl _) (by simp)
      rw [List.nil_append, List.length_nil, Nat.sub_zero, List.drop_zero, hln] at h29
      have h29 : F29.l_490 k (F29.i490 (0, (piecesF b []).length) l pre ((piecesF b []).map lineA) []) = _ := h29
      have h30 := F30p k l.toNat (by omega) pre (piecesF b []) (by omega) (by omega) (by omega) k (piecesF b []).length 0 (piecesF b []).length [] (by omega) (by omega) (Nat.le_refl _) (by simp)
      rw [List.nil_append, List.drop_zero, hln] at h30
      have h30 : F30.l_494 k (F30.i494 (0, (piecesF b []).length) l pre ((piecesF b []).map lineA) []) = _ := h30
      have d1 : ¬ (l < 0) := by omega
      have d2 : ¬ ((0 : Int) < 0) := by omega
      have d3 : l > 0 := c3
      have d4 : ¬ ((0 : Int) > 0) := by omega
      have e1 : ((0 : Int) == 0) = true := rfl
      unfold F29.go F30.go
      rw [F54_eq k b hB (by omega) (by omega), F60_eq k b hb (by omega)]
      simp only [d1, d2, d3, d4, e0, e1, decide_true, decide_false, cond_true, cond_false, Bool.not_true, show (true == false) = false from rfl, Option.bind_some, List.length_map]
      rw [h29, h30]
      simp only [Option.bind_some]
      exact fin ((chF l.toNat (piecesF b []).length (piecesF b [])).map List.flatten) (by rw [List.length_map]; omega)
    · left
      refine ⟨22, ?_, ?_⟩
      · unfold F29.go
        by_cases d1 : l < 0
        · simp only [d1, decide_true, cond_true]
        · by_cases d2 : s < 0
          · simp only [d1, d2, decide_true, decide_false, cond_true, cond_false]
          · have d3 : l > 0 := by omega
            have d4 : s > 0 := by
              rcases Int.lt_trichotomy s 0 with h | h | h
              · exact absurd h d2
              · exact absurd ⟨h, d3⟩ c2
              · exact h
            simp only [d1, d2, d3, d4, decide_true, decide_false, cond_true, cond_false, show (true == true) = true from rfl]
      · unfold F30.go
        cases e1 : s == 0
        · simp only [e0, e1, cond_false]
        · rw [beq_iff_eq] at e1
          have d3 : ¬ l > 0 := fun h => c2 ⟨e1, h⟩
          have e2 : (s == 0) = true := by rw [beq_iff_eq]; exact e1
          simp only [e0, e2, d3, decide_false, Bool.not_false, cond_true, cond_false]
theorem textSplits (b : List Int) (l s : Int) (pre : ByteArray) (hB : isB b) (hb : b.length ≤ 1048576) (hl : i64 l) (hs : i64 s) (hp : pre.size ≤ 8000000) : ∃ k, F6.go k b l s pre = some ((true, ()), (), ()) := by
  refine ⟨b.length + 1001 + 200, ?_⟩
  have h3 := F13_eq (b.length + 1001)
  have r1 : F31.go (b.length + 1001 + 200) [] [] = _ := F31_refl _ [] (by simp) (by simp)
  have r2 : F17.go (b.length + 1001 + 200) [] [] = _ := F17_refl _ [] (by simp) (by simp)
  unfold F6.go
  rcases split_ans (b.length + 1001 + 200) b l s pre hB hb hl hs hp (by omega) with ⟨e, h1, h2⟩ | ⟨N, O, hN, hO, h1, h2⟩
  · rw [h1, h2]
    simp only [Option.bind_some, Sum.elim_inl, beq_self_eq_true, cond_true, r1, r2, h3]
  · rw [h1, h2]
    have r3 := F31_refl (b.length + 1001 + 200) N (by omega) (by omega)
    have r4 := F17_refl (b.length + 1001 + 200) O (by omega) (by omega)
    simp only [Option.bind_some, Sum.elim_inr, beq_self_eq_true, cond_true, r3, r4, h3]
end Go.Proofs.Try.S

