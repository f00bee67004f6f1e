/- The plain law: what the functions that the law compares make is the same, over lists and numbers alone. -/
import Derived.Test.YtlkhhhfoiipiaaaBackWalk2
import Derived.Test.YtlkhhhfoiipiaaaEv4
set_option linter.unusedVariables false
set_option linter.unusedSimpArgs false
set_option linter.unusedSectionVars false
set_option maxRecDepth 100000
namespace Go.Proofs.Try.S
open Go Go.Ev
theorem loopN_inr {A B : Type} {f : A → Option (A ⊕ B)} {k : Nat} {x : A} {y : B} (h : f x = some (.inr y)) : loopN f (k + 1) x = some y := by
  unfold loopN; rw [h]
theorem loopN_inl {A B : Type} {f : A → Option (A ⊕ B)} {k : Nat} {x x' : A} (h : f x = some (.inl x')) : loopN f (k + 1) x = loopN f k x' := by
  rw [loopN, h]
theorem drop_int {l : List Int} {i : Nat} (h : i < l.length) : l.drop i = l[i] :: l.drop (i + 1) := List.drop_eq_getElem_cons h
/-- the column behind a byte -/
def wideN (at_ : Nat) (c : Int) : Nat := bif c == 9 then at_ + 8 - at_ % 8 else bif c == 8 then at_ - 1 else bif c == 13 then 0 else at_ + 1
theorem F46_eq (k a : Nat) (c : Int) (h : a ≤ 2000000000) : F46.go k (a : Int) c = some ((((wideN a c : Nat) : Int), ()), (), ()) := by
  have e1 : IntKind.i64.wrap ((a : Int) + 8) = (a : Int) + 8 := wrap_id (by omega) (by omega)
  have e2 : (a : Int).tmod 8 = ((a % 8 : Nat) : Int) := rfl
  have e3 : IntKind.i64.wrap ((a : Int) + 8 - ((a % 8 : Nat) : Int)) = ((a + 8 - a % 8 : Nat) : Int) := by rw [wrap_id (by omega) (by omega)]; omega
  have e4 : IntKind.i64.wrap ((a : Int) - 1) = (a : Int) - 1 := wrap_id (by omega) (by omega)
  have e5 : IntKind.i64.wrap ((a : Int) + 1) = ((a + 1 : Nat) : Int) := by rw [wrap_id (by omega) (by omega)]; rfl
  unfold F46.go wideN
  cases c == 9
  · cases c == 8
    · cases c == 13
      · simp only [cond_false, e5]
      · rfl
    · simp only [cond_false, cond_true, Bool.and_self, Bool.true_and, Bool.and_true, e4]
      by_cases h0 : a = 0
      · subst h0; rfl
      · have : ¬ ((a : Int) - 1 < 0) := by omega
        simp only [this, decide_false, cond_false]
        congr 3
        omega
  · simp only [cond_true, Bool.and_self, Bool.true_and, Bool.and_true, e1, e2, e3]
def linesF : List Int → List Int → List (List Int) × Bool
  | [], line => bif line.isEmpty then ([], true) else ([line], false)
  | c :: r, line => bif c == 10 then (line :: (linesF r []).1, (linesF r []).2) else linesF r (line ++ [c])
def lineA (l : List Int) : AV := .ro false (.I .u8 l)
def colFrom : Nat → List Int → Nat
  | a, [] => a
  | a, c :: l => colFrom (wideN a c) l
def colN (l : List Int) : Nat := colFrom 0 l
theorem wideN_le (a : Nat) (c : Int) : wideN a c ≤ a + 8 := by
  unfold wideN
  cases c == 9 <;> cases c == 8 <;> cases c == 13 <;> simp only [cond_true, Bool.and_self, Bool.true_and, Bool.and_true, cond_false] <;> omega
theorem colFrom_le : ∀ (l : List Int) (a : Nat), colFrom a l ≤ a + 8 * l.length
  | [], a => by simp [colFrom]
  | c :: l, a => by
    have h1 := wideN_le a c
    have h2 := colFrom_le l (wideN a c)
    simp only [colFrom, List.length_cons]; omega
theorem colFrom_append : ∀ (l : List Int) (a : Nat) (c : Int), colFrom a (l ++ [c]) = wideN (colFrom a l) c
  | [], a, c => rfl
  | d :: l, a, c => colFrom_append l (wideN a d) c
theorem F49l (k0 : Nat) (l : List Int) (hl : l.length ≤ 4000000) : ∀ (k i a : Nat), i ≤ l.length → l.length - i < k → a ≤ 8 * i →
    loopN (fun x => F49.go58 k0 x.fst.fst x.fst.snd.fst x.fst.snd.snd.snd.fst x.snd.fst.fst) k (((i : Int), (a : Int), (), (l.length : Int), ()), (l, ()), ()) = some ((((colFrom a (l.drop i) : Nat) : Int), ()), (l, ()), ())
  | 0, i, a, h, hk, _ => absurd hk (Nat.not_lt_zero _)
  | k + 1, i, a, h, hk, ha => by
    rcases Nat.lt_or_ge i l.length with c | c
    · have h0 : (i : Int) < (l.length : Int) := by omega
      have h0' : (0 : Int) ≤ (i : Int) := by omega
      have s : F49.go58 k0 i a l.length l = some (.inl ((((i + 1 : Nat) : Int), ((wideN a l[i] : Nat) : Int), (), (l.length : Int), ()), (l, ()), ())) := by
        unfold F49.go58
        simp only [h0, h0', decide_true, cond_true, Bool.and_self, Bool.true_and, Bool.and_true, Int.toNat_natCast, Go.Ev.getD_in c, F46_eq k0 a _ (by omega), Option.bind_some, wrap_id (n := (i : Int) + 1) (by omega) (by omega)]
        rfl
      rw [drop_int c, colFrom]
      have := wideN_le a l[i]
      exact (loopN_inl s).trans (F49l k0 l hl k (i + 1) _ c (by omega) (by omega))
    · have : i = l.length := Nat.le_antisymm h c
      subst this
      refine loopN_inr ?_
      dsimp only
      unfold F49.go58
      simp only [Int.lt_irrefl, decide_false, cond_false, List.drop_length]
      rfl
theorem F49_eq (k : Nat) (l : List Int) (hl : l.length ≤ 4000000) (hk : l.length < k) : F49.go k l = some ((((colN l : Nat) : Int), ()), (l, ()), ()) := by
  have L : F49.l_58 k ((0, 0, (), ↑l.length, ()), (l, ()), ()) = _ := F49l k l hl k 0 0 (Nat.zero_le _) (by omega) (Nat.zero_le _)
  unfold F49.go
  rw [L]; rfl
/-- how many bytes up to the last blank -/
def blB (c : Int) : Bool := c == 32 || c == 9
def lastB (l : List Int) : Nat → Nat
  | 0 => 0
  | n + 1 => bif blB (l.getD n 0) then n + 1 else lastB l n
theorem lastB_le (l : List Int) : ∀ n, lastB l n ≤ n
  | 0 => Nat.le_refl _
  | n + 1 => by
    unfold lastB
    cases blB (l.getD n 0)
    · exact Nat.le_succ_of_le (lastB_le l n)
    · exact Nat.le_refl _
theorem F73_eq (k : Nat) (c : Int) : F73.go k c = some ((blB c, ()), (), ()) := by
  unfold F73.go blB
  cases c == 32 <;> rfl
theorem F47l (k0 : Nat) (l : List Int) (hl : l.length ≤ 4000000) : ∀ (k n : Nat), n ≤ l.length → n < k →
    loopN (fun x => F47.go26 k0 x.fst.fst x.snd.fst.fst) k (((n : Int), (), ()), (l, ()), ()) = some (bif lastB l n == 0 then .inr ((), (l, ()), ()) else .inl ((((lastB l n : Nat) : Int), ()), (l, ()), ()))
  | 0, n, _, h => absurd h (Nat.not_lt_zero _)
  | k + 1, 0, _, _ => loopN_inr (by unfold F47.go26; rfl)
  | k + 1, n + 1, hn, hk => by
    have h0 : ((n + 1 : Nat) : Int) > 0 := by omega
    have e : IntKind.i64.wrap (((n + 1 : Nat) : Int) - 1) = (n : Int) := by rw [wrap_id (by omega) (by omega)]; omega
    have h1 : (0 : Int) ≤ (n : Int) := by omega
    have h2 : (n : Int) < (l.length : Int) := by omega
    have hg : l.getD n 0 = l[n]'hn := by rw [List.getD_eq_getElem?_getD, List.getElem?_eq_getElem hn]; rfl
    rw [lastB, hg]
    cases eb : blB (l[n]'hn)
    · have s : F47.go26 k0 ((n + 1 : Nat) : Int) l = some (.inl (((n : Int), (), ()), (l, ()), ())) := by
        unfold F47.go26
        simp only [h0, e, h1, h2, decide_true, cond_true, Bool.and_self, Bool.true_and, Bool.and_true, Int.toNat_natCast, Go.Ev.getD_in (l := l) hn, F73_eq, Option.bind_some, eb, cond_false]
      exact (loopN_inl s).trans (F47l k0 l hl k n (by omega) (by omega))
    · refine loopN_inr ?_
      dsimp only
      unfold F47.go26
      simp only [h0, e, h1, h2, decide_true, cond_true, Bool.and_self, Bool.true_and, Bool.and_true, Int.toNat_natCast, Go.Ev.getD_in (l := l) hn, F73_eq, Option.bind_some, eb]
      rfl
theorem F47_eq (k : Nat) (l : List Int) (hl : l.length ≤ 4000000) (hk : l.length < k) : F47.go k l = some ((((lastB l l.length : Nat) : Int), ()), (l, ()), ()) := by
  have L : F47.l_26 k ((↑l.length, (), ()), (l, ()), ()) = _ := F47l k l hl k l.length (Nat.le_refl _) (by omega)
  unfold F47.go
  rw [L]
  cases e : lastB l l.length == 0
  · rfl
  · rw [beq_iff_eq] at e
    rw [e]; rfl
theorem app_eq (a b : List Int) : a.append b = a ++ b := rfl
theorem F48_1_eq (k off len : Nat) (l : List Int) (hl : l.length ≤ 4000000) : F48_1.go k (off, len) l = some (((), ()), (l, (l.drop off).take len, ()), ()) := by
  have h0 : (Value.int IntKind.u8 0).cells.size.beq 1 = true := rfl
  have hle : ((l.drop off).take len).length ≤ l.length := by simp; omega
  have h1 : (((l.drop off).take len).length * 1).ble 140737488355328 = true := Nat.ble_eq_true_of_le (by omega)
  have h2 : ((l.drop off).take len).length.ble 9223372036854775807 = true := Nat.ble_eq_true_of_le (by omega)
  unfold F48_1.go
  simp only [h0, h1, h2, cond_true, Bool.and_self, Bool.true_and, Bool.and_true]
def cutN (words : Bool) (p : List Int) : Nat := bif words && decide (0 < lastB p p.length) then lastB p p.length else p.length
theorem cutN_le (words : Bool) (p : List Int) : cutN words p ≤ p.length := by
  unfold cutN
  have := lastB_le p p.length
  cases words && decide (0 < lastB p p.length)
  · exact Nat.le_refl _
  · exact this
theorem cutN_pos (words : Bool) (p : List Int) (h : 0 < colN p) : 0 < cutN words p := by
  have hp : 0 < p.length := by
    cases p with
    | nil => exact absurd h (Nat.lt_irrefl _)
    | cons c t => simp
  unfold cutN
  cases e : words && decide (0 < lastB p p.length)
  · exact hp
  · rw [Bool.and_eq_true, decide_eq_true_eq] at e; exact e.2
def innerS (words : Bool) (width : Int) (c : Int) : Nat → List Int → List Int → List Int × List Int
  | 0, out, p => (out, p)
  | n + 1, out, p => bif decide (0 < colN p) && decide (width < ((wideN (colN p) c : Nat) : Int)) then innerS words width c n (out ++ p.take (cutN words p) ++ [10]) (p.drop (cutN words p)) else (out, p)
theorem innerS_len (words : Bool) (width c : Int) : ∀ (n : Nat) (out p : List Int), (innerS words width c n out p).2.length ≤ p.length ∧ (innerS words width c n out p).1.length + 2 * (innerS words width c n out p).2.length ≤ out.length + 2 * p.length
  | 0, out, p => ⟨Nat.le_refl _, Nat.le_refl _⟩
  | n + 1, out, p => by
    unfold innerS
    cases e : decide (0 < colN p) && decide (width < ((wideN (colN p) c : Nat) : Int))
    · exact ⟨Nat.le_refl _, Nat.le_refl _⟩
    · rw [Bool.and_eq_true, decide_eq_true_eq] at e
      have h1 := cutN_pos words p e.1
      have h2 := cutN_le words p
      have ih := innerS_len words width c n (out ++ p.take (cutN words p) ++ [10]) (p.drop (cutN words p))
      have e1 : (out ++ p.take (cutN words p) ++ [10]).length = out.length + cutN words p + 1 := by simp; omega
      have e2 : (p.drop (cutN words p)).length = p.length - cutN words p := List.length_drop
      rw [e1, e2] at ih
      simp only [cond_true, Bool.and_self, Bool.true_and, Bool.and_true]
      omega
theorem inner_step (k : Nat) (words : Bool) (width : Int) (b : List Int) (bl i c : Int) (p out : List Int) (hp : p.length ≤ 2000000) (ho : out.length + 2 * p.length ≤ 4000000) (hk : p.length + 1 ≤ k) :
    F10.go128204 k words width b bl i c ((colN p : Nat) : Int) p out = bif decide (0 < colN p) && decide (width < ((wideN (colN p) c : Nat) : Int)) then
        some (.inl (((), (), words, width, b, bl, i, c, ((colN (p.drop (cutN words p)) : Nat) : Int), ()), (p.drop (cutN words p), out ++ p.take (cutN words p) ++ [10], ()), ()))
      else some (.inr (((), words, width, b, bl, i, c, ((colN p : Nat) : Int), (), ()), (out, p, ()), ())) := by
  have hcol := colFrom_le p 0
  have hc : colN p ≤ 100000000 := by unfold colN; omega
  have hcut := cutN_le words p
  have hlast := lastB_le p p.length
  have h0 : (Value.int IntKind.u8 0).cells.size.beq 1 = true := rfl
  have key : ∀ m : Nat, m ≤ p.length → 0 < p.length →
      (((out ++ p.take m).length * 1).ble 140737488355328 = true ∧ (out ++ p.take m).length.ble 9223372036854775807 = true) ∧ ((out ++ p.take m ++ [10]).length * 1).ble 140737488355328 = true ∧ (out ++ p.take m ++ [10]).length.ble 9223372036854775807 = true := by
    intro m hm hpos
    have e1 : (out ++ p.take m).length = out.length + m := by simp; omega
    have e2 : (out ++ p.take m ++ [10]).length = out.length + m + 1 := by simp; omega
    rw [e1, e2]
    exact ⟨⟨Nat.ble_eq_true_of_le (by omega), Nat.ble_eq_true_of_le (by omega)⟩, Nat.ble_eq_true_of_le (by omega), Nat.ble_eq_true_of_le (by omega)⟩
  have own (m : Nat) (hm : m ≤ p.length) : F48_1.go k (m, p.length - m) p = some (((), ()), (p, p.drop m, ()), ()) := by
    rw [F48_1_eq k m (p.length - m) p (by omega)]
    have : (p.drop m).take (p.length - m) = p.drop m := by rw [← List.length_drop, List.take_length]
    rw [this]
  have col (m : Nat) : F49.go k (p.drop m) = some ((((colN (p.drop m) : Nat) : Int), ()), (p.drop m, ()), ()) := F49_eq k (p.drop m) (by rw [List.length_drop]; omega) (by rw [List.length_drop]; omega)
  unfold F10.go128204
  by_cases c1 : 0 < colN p
  · have hpos : 0 < p.length := by
      cases p with
      | nil => exact absurd c1 (Nat.lt_irrefl _)
      | cons c t => simp
    have d1 : ((colN p : Nat) : Int) > 0 := by omega
    simp only [d1, c1, decide_true, cond_true, Bool.and_self, Bool.true_and, Bool.and_true, Bool.true_and, F46_eq k (colN p) c (by omega), Option.bind_some]
    by_cases c2 : width < ((wideN (colN p) c : Nat) : Int)
    · have d2 : ((wideN (colN p) c : Nat) : Int) > width := c2
      simp only [d2, c2, decide_true, cond_true, Bool.and_self, Bool.true_and, Bool.and_true, F47_eq k p (by omega) (by omega), Option.bind_some]
      have full : cutN words p = p.length → F10.go128204 k words width b bl i c ((colN p : Nat) : Int) p out = F10.go128204 k words width b bl i c ((colN p : Nat) : Int) p out := fun _ => rfl
      cases words with
      | false =>
        have ec : cutN false p = p.length := rfl
        obtain ⟨⟨k1, k2⟩, k3, k4⟩ := key p.length (Nat.le_refl _) hpos
        have z1 : (0 : Int) ≤ ((p.length : Nat) : Int) := by omega
        rw [ec]
        simp only [cond_false, z1, Int.le_refl, decide_true, h0, app_eq, Int.toNat_natCast, Nat.sub_zero, k1, k2, cond_true, Bool.and_self, Bool.true_and, Bool.and_true]
        have k3' : ((out ++ p.take p.length ++ [10]).length * 1).ble 140737488355328 = true := k3
        have k4' : (out ++ p.take p.length ++ [10]).length.ble 9223372036854775807 = true := k4
        simp only [k3', k4', cond_true, Bool.and_self, Bool.true_and, Bool.and_true, own p.length (Nat.le_refl _), col, Option.bind_some]
      | true =>
        by_cases c3 : 0 < lastB p p.length
        · have ec : cutN true p = lastB p p.length := by unfold cutN; simp [c3]
          obtain ⟨⟨k1, k2⟩, k3, k4⟩ := key (lastB p p.length) hlast hpos
          have z0 : ((lastB p p.length : Nat) : Int) > 0 := by omega
          have z1 : (0 : Int) ≤ ((lastB p p.length : Nat) : Int) := by omega
          have z2 : ((lastB p p.length : Nat) : Int) ≤ ((p.length : Nat) : Int) := by omega
          rw [ec]
          simp only [cond_true, Bool.and_self, Bool.true_and, Bool.and_true, z0, z1, z2, decide_true, h0, app_eq, Int.toNat_natCast, Nat.sub_zero, k1, k2]
          have k3' : ((out ++ p.take (lastB p p.length) ++ [10]).length * 1).ble 140737488355328 = true := k3
          have k4' : (out ++ p.take (lastB p p.length) ++ [10]).length.ble 9223372036854775807 = true := k4
          simp only [k3', k4', cond_true, Bool.and_self, Bool.true_and, Bool.and_true, own (lastB p p.length) hlast, col, Option.bind_some]
        · have ec : cutN true p = p.length := by unfold cutN; simp [c3]
          obtain ⟨⟨k1, k2⟩, k3, k4⟩ := key p.length (Nat.le_refl _) hpos
          have z0 : ¬ ((lastB p p.length : Nat) : Int) > 0 := by omega
          have z1 : (0 : Int) ≤ ((p.length : Nat) : Int) := by omega
          rw [ec]
          simp only [cond_true, Bool.and_self, Bool.true_and, Bool.and_true, z0, z1, Int.le_refl, decide_true, decide_false, cond_false, h0, app_eq, Int.toNat_natCast, Nat.sub_zero, k1, k2]
          have k3' : ((out ++ p.take p.length ++ [10]).length * 1).ble 140737488355328 = true := k3
          have k4' : (out ++ p.take p.length ++ [10]).length.ble 9223372036854775807 = true := k4
          simp only [k3', k4', cond_true, Bool.and_self, Bool.true_and, Bool.and_true, own p.length (Nat.le_refl _), col, Option.bind_some]
    · have d2 : ¬ ((wideN (colN p) c : Nat) : Int) > width := c2
      simp only [d2, c2, decide_false, cond_false]
  · have d1 : ¬ ((colN p : Nat) : Int) > 0 := by omega
    simp only [d1, c1, decide_false, cond_false, Bool.false_and]
theorem inner_loop (k0 : Nat) (words : Bool) (width : Int) (b : List Int) (bl i c : Int) : ∀ (n k : Nat) (out p : List Int), p.length ≤ n → n < k → p.length ≤ 2000000 → out.length + 2 * p.length ≤ 4000000 → p.length + 1 ≤ k0 →
    loopN (fun x => F10.go128204 k0 x.fst.snd.snd.fst x.fst.snd.snd.snd.fst x.fst.snd.snd.snd.snd.fst x.fst.snd.snd.snd.snd.snd.fst
        x.fst.snd.snd.snd.snd.snd.snd.fst x.fst.snd.snd.snd.snd.snd.snd.snd.fst x.fst.snd.snd.snd.snd.snd.snd.snd.snd.fst x.snd.fst.fst x.snd.fst.snd.fst) k
      (((), (), words, width, b, bl, i, c, ((colN p : Nat) : Int), ()), (p, out, ()), ()) =
    some (((), words, width, b, bl, i, c, ((colN (innerS words width c n out p).2 : Nat) : Int), (), ()), ((innerS words width c n out p).1, (innerS words width c n out p).2, ()), ())
  | n, 0, out, p, _, hk, _, _, _ => absurd hk (Nat.not_lt_zero _)
  | 0, k + 1, out, p, h, hk, hp, ho, hk0 => by
    have : p = [] := List.length_eq_zero_iff.1 (Nat.le_zero.1 h)
    subst this
    exact loopN_inr (inner_step k0 words width b bl i c [] out hp ho hk0)
  | n + 1, k + 1, out, p, h, hk, hp, ho, hk0 => by
    have S := inner_step k0 words width b bl i c p out hp ho hk0
    unfold innerS
    cases e : decide (0 < colN p) && decide (width < ((wideN (colN p) c : Nat) : Int)) <;> rw [e] at S
    · exact loopN_inr S
    · rw [Bool.and_eq_true, decide_eq_true_eq] at e
      have h1 := cutN_pos words p e.1
      have h2 := cutN_le words p
      have e1 : (out ++ p.take (cutN words p) ++ [10]).length = out.length + cutN words p + 1 := by simp; omega
      have e2 : (p.drop (cutN words p)).length = p.length - cutN words p := List.length_drop
      exact (loopN_inl S).trans (inner_loop k0 words width b bl i c n k _ _ (by omega) (by omega) (by omega) (by omega) (by omega))
def stepS (words : Bool) (width c : Int) (out p : List Int) : List Int × List Int :=
  bif c == 10 then (out ++ p ++ [10], []) else ((innerS words width c p.length out p).1, (innerS words width c p.length out p).2 ++ [c])
def foldS (words : Bool) (width : Int) : List Int → List Int → List Int → List Int × List Int
  | [], out, p => (out, p)
  | c :: l, out, p => foldS words width l (stepS words width c out p).1 (stepS words width c out p).2
theorem stepS_len (words : Bool) (width c : Int) (out p : List Int) (i : Nat) (h : out.length + 2 * p.length ≤ 2 * i) (hp : p.length ≤ i) :
    (stepS words width c out p).1.length + 2 * (stepS words width c out p).2.length ≤ 2 * (i + 1) ∧ (stepS words width c out p).2.length ≤ i + 1 := by
  unfold stepS
  cases c == 10
  · have := innerS_len words width c p.length out p
    simp only [cond_false, List.length_append, List.length_cons, List.length_nil]
    omega
  · simp only [cond_true, Bool.and_self, Bool.true_and, Bool.and_true, List.length_append, List.length_cons, List.length_nil]
    omega
theorem colN_push (p : List Int) (c : Int) : colN (p ++ [c]) = wideN (colN p) c := colFrom_append p 0 c
theorem fold_step (k : Nat) (words : Bool) (width : Int) (b : List Int) (i : Nat) (out p : List Int) (hb : b.length ≤ 1048576) (hi : i < b.length) (h : out.length + 2 * p.length ≤ 2 * i) (hp : p.length ≤ i) (hk : b.length + 2 ≤ k) :
    F10.go250 k i words ((colN p : Nat) : Int) width b b.length p out = some (.inl ((((i + 1 : Nat) : Int), (), (), words, ((colN (stepS words width b[i] out p).2 : Nat) : Int), width, b, (b.length : Int), ()),
      ((stepS words width b[i] out p).2, (stepS words width b[i] out p).1, ()), ())) := by
  have h0 : (i : Int) < (b.length : Int) := by omega
  have h0' : (0 : Int) ≤ (i : Int) := by omega
  have r0 : (Value.int IntKind.u8 0).cells.size.beq 1 = true := rfl
  have hw : IntKind.i64.wrap ((i : Int) + 1) = ((i + 1 : Nat) : Int) := by rw [wrap_id (by omega) (by omega)]; rfl
  have ble (m : Nat) (hm : m ≤ 4000000) : (m * 1).ble 140737488355328 = true ∧ m.ble 9223372036854775807 = true := ⟨Nat.ble_eq_true_of_le (by omega), Nat.ble_eq_true_of_le (by omega)⟩
  unfold F10.go250 stepS
  simp only [h0, h0', decide_true, cond_true, Bool.and_self, Bool.true_and, Bool.and_true, Int.toNat_natCast, Go.Ev.getD_in hi]
  cases e : b[i] == 10
  · have I := inner_loop k words width b b.length i b[i] p.length k out p (Nat.le_refl _) (by omega) (by omega) (by omega) (by omega)
    have I' : F10.l_128204 k (((), (), words, width, b, ↑b.length, ↑i, b[i], ↑(colN p), ()), (p, out, ()), ()) = _ := I
    have hin := innerS_len words width b[i] p.length out p
    have hcol := colFrom_le (innerS words width b[i] p.length out p).2 0
    have hc : colN (innerS words width b[i] p.length out p).2 ≤ 100000000 := by unfold colN; omega
    have el : ((innerS words width b[i] p.length out p).2 ++ [b[i]]).length ≤ 4000000 := by simp; omega
    obtain ⟨q1, q2⟩ := ble _ el
    simp only [cond_false, I', Option.bind_some, r0]
    have q1' : (((innerS words width b[i] p.length out p).2 ++ [b[i]]).length * 1).ble 140737488355328 = true := q1
    have q2' : ((innerS words width b[i] p.length out p).2 ++ [b[i]]).length.ble 9223372036854775807 = true := q2
    simp only [q1', q2', cond_true, Bool.and_self, Bool.true_and, Bool.and_true, F46_eq k _ b[i] (Nat.le_trans hc (by decide)), Option.bind_some, hw, colN_push]
  · obtain ⟨q1, q2⟩ := ble (out ++ p).length (by simp; omega)
    obtain ⟨q3, q4⟩ := ble (out ++ p ++ [10]).length (by simp; omega)
    have q3' : ((out ++ p ++ [10]).length * 1).ble 140737488355328 = true := q3
    have q4' : (out ++ p ++ [10]).length.ble 9223372036854775807 = true := q4
    simp only [cond_true, Bool.and_self, Bool.true_and, Bool.and_true, r0, app_eq, q1, q2, q3', q4', hw]
    rfl
theorem fold_loop (k0 : Nat) (words : Bool) (width : Int) (b : List Int) (hb : b.length ≤ 1048576) (hk0 : b.length + 2 ≤ k0) : ∀ (k i : Nat) (out p : List Int), i ≤ b.length → b.length - i < k → out.length + 2 * p.length ≤ 2 * i → p.length ≤ i →
    loopN (fun x => F10.go250 k0 x.fst.fst x.fst.snd.snd.snd.fst x.fst.snd.snd.snd.snd.fst x.fst.snd.snd.snd.snd.snd.fst
        x.fst.snd.snd.snd.snd.snd.snd.fst x.fst.snd.snd.snd.snd.snd.snd.snd.fst x.snd.fst.fst x.snd.fst.snd.fst) k
      (((i : Int), (), (), words, ((colN p : Nat) : Int), width, b, (b.length : Int), ()), (p, out, ()), ()) =
    some (((), (), ()), ((foldS words width (b.drop i) out p).2, (foldS words width (b.drop i) out p).1, ()), ())
  | 0, i, out, p, _, hk, _, _ => absurd hk (Nat.not_lt_zero _)
  | k + 1, i, out, p, hi, hk, h, hp => by
    rcases Nat.lt_or_ge i b.length with c | c
    · have S := fold_step k0 words width b i out p hb c h hp hk0
      have L := stepS_len words width b[i] out p i h hp
      rw [drop_int c, foldS]
      exact (loopN_inl S).trans (fold_loop k0 words width b hb hk0 k (i + 1) _ _ c (by omega) L.1 L.2)
    · have : i = b.length := Nat.le_antisymm hi c
      subst this
      refine loopN_inr ?_
      dsimp only
      unfold F10.go250
      simp only [Int.lt_irrefl, decide_false, cond_false, List.drop_length]
      rfl
theorem foldS_len (words : Bool) (width : Int) : ∀ (l out p : List Int) (i : Nat), out.length + 2 * p.length ≤ 2 * i → p.length ≤ i → (foldS words width l out p).1.length + 2 * (foldS words width l out p).2.length ≤ 2 * (i + l.length)
  | [], out, p, i, h, hp => by simpa [foldS] using h
  | c :: l, out, p, i, h, hp => by
    have L := stepS_len words width c out p i h hp
    have := foldS_len words width l _ _ (i + 1) L.1 L.2
    rw [foldS, List.length_cons]
    omega
theorem F10_eq (k : Nat) (words : Bool) (width : Int) (b : List Int) (hb : b.length ≤ 1048576) (hk : b.length + 2 ≤ k) :
    F10.go k b width words = bif decide (width < 1) then some (.inl ((((), 22, ()), ()), (), ())) else some (.inr ((((), 0, ()), ()), ((foldS words width b [] []).1 ++ (foldS words width b [] []).2, ()), ())) := by
  have L : F10.l_250 k ((0, (), (), words, 0, width, b, ↑b.length, ()), ([], [], ()), ()) = _ := fold_loop k words width b hb hk k 0 [] [] (Nat.zero_le _) (by omega) (by simp) (by simp)
  rw [List.drop_zero] at L
  have hl := foldS_len words width b [] [] 0 (by simp) (by simp)
  have r0 : (Value.int IntKind.u8 0).cells.size.beq 1 = true := rfl
  have e1 : (((foldS words width b [] []).1 ++ (foldS words width b [] []).2).length * 1).ble 140737488355328 = true := Nat.ble_eq_true_of_le (by simp; omega)
  have e2 : ((foldS words width b [] []).1 ++ (foldS words width b [] []).2).length.ble 9223372036854775807 = true := Nat.ble_eq_true_of_le (by simp; omega)
  unfold F10.go
  cases decide (width < 1)
  · simp only [cond_false, L, Option.bind_some, r0, app_eq, e1, e2, cond_true, Bool.and_self, Bool.true_and, Bool.and_true]
  · rfl
theorem ble1 {n : Nat} (h : n ≤ 8000000) : (Nat.ble (n * 1) 140737488355328 && Nat.ble n 9223372036854775807) = true := by
  rw [Nat.ble_eq_true_of_le (by omega), Nat.ble_eq_true_of_le (by omega)]; rfl
/-- a line has no line feed -/
def flat (l : List Int) : Prop := ∀ c ∈ l, (c == 10) = false
def wt : List (List Int) → Nat
  | [] => 0
  | l :: r => l.length + 1 + wt r
theorem linesF_flat : ∀ (b line : List Int), flat line → ∀ l ∈ (linesF b line).1, flat l
  | [], line, hl, l, h => by
    unfold linesF at h
    cases e : line.isEmpty <;> rw [e] at h
    · simp only [cond_false, List.mem_singleton] at h; subst h; exact hl
    · simp only [cond_true] at h; cases h
  | c :: r, line, hl, l, h => by
    unfold linesF at h
    cases e : c == 10 <;> rw [e] at h
    · refine linesF_flat r (line ++ [c]) ?_ l h
      intro d hd
      rcases List.mem_append.1 hd with hd | hd
      · exact hl d hd
      · rw [List.mem_singleton] at hd; subst hd; exact e
    · simp only [cond_true, List.mem_cons] at h
      rcases h with h | h
      · subst h; exact hl
      · exact linesF_flat r [] (fun _ h => by cases h) l h
theorem linesF_wt : ∀ (b line : List Int), wt (linesF b line).1 ≤ line.length + b.length + 1
  | [], line => by
    unfold linesF
    cases line.isEmpty <;> simp [wt]
  | c :: r, line => by
    unfold linesF
    cases c == 10
    · have := linesF_wt r (line ++ [c]); simp only [List.length_append, List.length_cons, List.length_nil] at this; simp only [cond_false, List.length_cons]; omega
    · have := linesF_wt r []; simp only [List.length_nil] at this; simp only [cond_true, List.length_cons, wt]; omega
theorem F12_eq (k : Nat) (a b : List Int) (h : a = b) : F12.go k a b = some ((true, ()), (), ()) := by
  subst h
  unfold F12.go F52.go
  simp only [Option.bind_some, beq_self_eq_true]
theorem F13_eq (k : Nat) : F13.go (k + 200) = some ((true, ()), (), ()) := by kernel_rfl
theorem ble24 {n : Nat} (h : n ≤ 8000000) : (Nat.ble (n * 24) 140737488355328 && Nat.ble n 9223372036854775807) = true := by
  rw [Nat.ble_eq_true_of_le (by omega), Nat.ble_eq_true_of_le (by omega)]; rfl
def isB (l : List Int) : Prop := ∀ n ∈ l, 0 ≤ n ∧ n ≤ 255
theorem isB_of_wf {l : List Int} (h : ∀ n ∈ l, (Lit.int .u8 n).wf = true) : isB l := by
  intro n hn
  have := h n hn
  have h2 : (IntKind.u8.min ≤ n ∧ n ≤ IntKind.u8.max) := by
    simpa only [Lit.wf, Bool.and_eq_true, decide_eq_true_eq] using this
  exact h2
theorem isB_drop {l : List Int} (h : isB l) (n : Nat) : isB (l.drop n) := fun x hx => h x (List.mem_of_mem_drop hx)
def posI : List Int → Int
  | [] => -1
  | c :: r => bif c == 10 then 0 else bif posI r == -1 then -1 else posI r + 1
def cutLen : List Int → Nat
  | [] => 0
  | c :: r => bif c == 10 then 1 else cutLen r + 1
theorem cutLen_le : ∀ l : List Int, cutLen l ≤ l.length
  | [] => Nat.le_refl _
  | c :: r => by
    have := cutLen_le r
    unfold cutLen
    cases c == 10 <;> simp only [cond_true, cond_false, List.length_cons] <;> omega
theorem cutLen_pos : ∀ l : List Int, l ≠ [] → 0 < cutLen l
  | [], h => absurd rfl h
  | c :: r, _ => by
    unfold cutLen
    cases c == 10 <;> simp only [cond_true, cond_false] <;> omega
theorem pos_cut : ∀ l : List Int, (posI l = -1 ∧ cutLen l = l.length) ∨ (0 ≤ posI l ∧ posI l + 1 = (cutLen l : Int))
  | [] => .inl ⟨rfl, rfl⟩
  | c :: r => by
    unfold posI cutLen
    cases c == 10
    · rcases pos_cut r with ⟨h1, h2⟩ | ⟨h1, h2⟩
      · left; rw [h1, h2]; exact ⟨rfl, rfl⟩
      · right
        have : (posI r == -1) = false := by rw [beq_eq_false_iff_ne]; omega
        rw [this]; simp only [cond_false]; omega
    · right; exact ⟨Int.le_refl _, rfl⟩
theorem ix_eq : ∀ l : List Int, isB l → ixS (strOf l) 10 = posI l
  | [], _ => rfl
  | c :: r, h => by
    have ih := ix_eq r (fun x hx => h x (List.mem_cons_of_mem _ hx))
    have hc := h c (List.mem_cons_self ..)
    have e : (UInt8.ofNat c.toNat == (10 : Int).toNat.toUInt8) = (c == 10) := by
      have h1 : (10 : Int).toNat.toUInt8 = (10 : UInt8) := rfl
      rw [h1, Bool.eq_iff_iff, beq_iff_eq, beq_iff_eq]
      constructor
      · intro e
        have : (UInt8.ofNat c.toNat).toNat = (10 : UInt8).toNat := by rw [e]
        rw [UInt8.toNat_ofNat'] at this
        have h3 : (10 : UInt8).toNat = 10 := rfl
        omega
      · intro e; subst e; rfl
    have h2 : ixS (strOf (c :: r)) 10 = if UInt8.ofNat c.toNat == (10 : Int).toNat.toUInt8 then 0 else if ixS (strOf r) 10 == -1 then -1 else ixS (strOf r) 10 + 1 := rfl
    rw [h2, e, ih, posI]
    cases c == 10
    · cases posI r == -1 <;> rfl
    · rfl
def piecesF : List Int → List Int → List (List Int)
  | [], line => bif line.isEmpty then [] else [line]
  | c :: r, line => bif c == 10 then (line ++ [c]) :: piecesF r [] else piecesF r (line ++ [c])
theorem piecesF_cons (c : Int) (r line : List Int) : piecesF (c :: r) line = bif c == 10 then (line ++ [c]) :: piecesF r [] else piecesF r (line ++ [c]) := rfl
theorem piecesF_cut : ∀ (l line : List Int), l ≠ [] → piecesF l line = (line ++ l.take (cutLen l)) :: piecesF (l.drop (cutLen l)) []
  | [], line, h => absurd rfl h
  | c :: r, line, _ => by
    rw [piecesF_cons, cutLen]
    cases c == 10
    · simp only [cond_false, List.take_succ_cons, List.drop_succ_cons]
      cases r with
      | nil => cases line <;> rfl
      | cons d r =>
        rw [piecesF_cut (d :: r) (line ++ [c]) (by simp)]
        simp only [List.append_assoc, List.singleton_append]
    · simp only [cond_true, List.take_succ_cons, List.take_zero, List.drop_succ_cons, List.drop_zero]
theorem piecesF_flat : ∀ (l line : List Int), (piecesF l line).flatten = line ++ l
  | [], line => by unfold piecesF; cases line <;> simp
  | c :: r, line => by
    unfold piecesF
    cases c == 10
    · simp only [cond_false]; rw [piecesF_flat r]; simp
    · simp only [cond_true, List.flatten_cons]; rw [piecesF_flat r]; simp
theorem piecesF_len : ∀ (l line : List Int), (piecesF l line).length ≤ line.length + l.length
  | [], line => by unfold piecesF; cases line <;> simp
  | c :: r, line => by
    unfold piecesF
    cases c == 10
    · have := piecesF_len r (line ++ [c]); simp only [cond_false, List.length_append, List.length_cons, List.length_nil] at *; omega
    · have := piecesF_len r []; simp only [cond_true, List.length_cons, List.length_nil] at *; omega
theorem F54l (k0 : Nat) : ∀ (k : Nat) (b : List Int) (P : List (List Int)), isB b → b.length < k → P.length + b.length ≤ 8000000 →
    loopN (F54.s28 k0) k (F54.i28 b (P.map lineA)) = some (F54.r28 ((P ++ piecesF b []).map lineA))
  | 0, b, P, _, h, _ => absurd h (Nat.not_lt_zero _)
  | k + 1, [], P, hB, hk, hP => by
    refine loopN_inr ?_
    unfold F54.s28 F54.go28
    simp only [piecesF, List.isEmpty_nil, cond_true, List.append_nil]
    rfl
  | k + 1, c :: r, P, hB, hk, hP => by
    generalize hb : c :: r = b at *
    have hne : b ≠ [] := by subst hb; simp
    have hpos : 0 < b.length := by subst hb; simp
    have d0 : ((b.length : Nat) : Int) > 0 := by omega
    have d1 : (0 : Int) ≤ ((b.length : Nat) : Int) := by omega
    have hcl := cutLen_le b
    have hcp := cutLen_pos b hne
    have hix := ix_eq b hB
    have e1 : (P.map lineA ++ [AV.ro false (Lst.I IntKind.u8 (b.take (cutLen b)))]).length ≤ 8000000 := by simp; omega
    have e2 : P.map lineA ++ [AV.ro false (Lst.I IntKind.u8 (b.take (cutLen b)))] = (P ++ [b.take (cutLen b)]).map lineA := by simp [lineA]
    have s : F54.s28 k0 (F54.i28 b (P.map lineA)) = some (.inl (F54.i28 (b.drop (cutLen b)) ((P ++ [b.take (cutLen b)]).map lineA))) := by
      unfold F54.s28 F54.go28 F81.go
      simp only [d0, decide_true, cond_true, Option.bind_some, hix]
      have e3 : ((P ++ [b.take (cutLen b)]).map lineA).length ≤ 8000000 := by rw [← e2]; exact e1
      rcases pos_cut b with ⟨h1, h2⟩ | ⟨h1, h2⟩
      · have w : (IntKind.i64.wrap (posI b + 1) == 0) = true := by rw [h1]; rfl
        rw [h2] at e2 e3
        simp only [w, cond_true, d1, Int.le_refl, decide_true, Bool.and_self, Int.toNat_natCast, e2, ble24 e3, h2]
      · have w0 : IntKind.i64.wrap (posI b + 1) = (cutLen b : Int) := by rw [h2, wrap_id (by omega) (by omega)]
        have w : (((cutLen b : Nat) : Int) == 0) = false := by rw [beq_eq_false_iff_ne]; omega
        have z1 : (0 : Int) ≤ ((cutLen b : Nat) : Int) := by omega
        have z2 : ((cutLen b : Nat) : Int) ≤ ((b.length : Nat) : Int) := by omega
        simp only [w0, w, cond_false, z1, z2, cond_true, decide_true, Bool.and_self, Int.toNat_natCast, e2, ble24 e3]
    have hl : (b.drop (cutLen b)).length = b.length - cutLen b := List.length_drop
    have ih := F54l k0 k (b.drop (cutLen b)) (P ++ [b.take (cutLen b)]) (isB_drop hB _) (by omega) (by simp; omega)
    rw [piecesF_cut b [] hne, List.nil_append]
    rw [List.append_assoc, List.singleton_append] at ih
    exact (loopN_inl s).trans ih
theorem F54_eq (k : Nat) (b : List Int) (hB : isB b) (hb : b.length ≤ 8000000) (hk : b.length < k) : F54.go k b = some (F54.r ((piecesF b []).map lineA)) := by
  have L : F54.l_28 k (F54.i28 b []) = _ := F54l k k b [] hB hk (by simpa using hb)
  unfold F54.go
  rw [L]; rfl
theorem flat_part : ∀ (L : List (List Int)) (off len : Nat), ((L.drop off).take len).flatten.length ≤ L.flatten.length := by
  intro L off len
  have h1 : L.flatten = (L.take off).flatten ++ ((L.drop off).take len).flatten ++ ((L.drop off).drop len).flatten := by
    rw [List.append_assoc, ← List.flatten_append, List.take_append_drop, ← List.flatten_append, List.take_append_drop]
  rw [h1]; simp only [List.length_append]; omega
theorem part_cons (L : List (List Int)) (off len i : Nat) (h : i < len) (hl : off + len ≤ L.length) : (L.drop (off + i)).take (len - i) = (L[off + i]'(by omega)) :: (L.drop (off + (i + 1))).take (len - (i + 1)) := by
  rw [List.drop_eq_getElem_cons (by omega : off + i < L.length)]
  have : len - i = (len - (i + 1)) + 1 := by omega
  rw [this, List.take_succ_cons]; rfl
theorem F56l (k0 : Nat) (L : List (List Int)) (off len : Nat) (hl : off + len ≤ L.length) (hn : L.length ≤ 8000000) : ∀ (k i : Nat) (out : List Int), i ≤ len → len - i < k → out.length + ((L.drop (off + i)).take (len - i)).flatten.length ≤ 8000000 →
    loopN (F56_1.s58 k0) k (F56_1.i58 i (off, len) len (L.map lineA) out) = some (F56_1.r58 (L.map lineA) (out ++ ((L.drop (off + i)).take (len - i)).flatten))
  | 0, i, out, _, hk, _ => absurd hk (Nat.not_lt_zero _)
  | k + 1, i, out, hi, hk, ho => by
    rcases Nat.lt_or_ge i len with c | c
    · have h0 : (i : Int) < (len : Int) := by omega
      have h0' : (0 : Int) ≤ (i : Int) := by omega
      have hw : IntKind.i64.wrap ((i : Int) + 1) = ((i + 1 : Nat) : Int) := by rw [wrap_id (by omega) (by omega)]; rfl
      have hg : AV.ints! ((L.map lineA).getD (off + i) (AV.tuple [])) = L[off + i]'(by omega) := by rw [Go.Ev.getD_in (by rw [List.length_map]; omega), List.getElem_map]; rfl
      rw [part_cons L off len i c hl] at ho ⊢
      simp only [List.flatten_cons, List.length_append] at ho
      have b1 : (out ++ L[off + i]'(by omega)).length ≤ 8000000 := by simp; omega
      have s : F56_1.s58 k0 (F56_1.i58 i (off, len) len (L.map lineA) out) = some (.inl (F56_1.i58 (i + 1 : Nat) (off, len) len (L.map lineA) (out ++ L[off + i]'(by omega)))) := by
        unfold F56_1.s58 F56_1.go58 F59.go
        simp only [h0, h0', decide_true, cond_true, Bool.and_self, Int.toNat_natCast, hg, Option.bind_some, ble1 b1, hw]
      have ih := F56l k0 L off len hl hn k (i + 1) (out ++ L[off + i]'(by omega)) c (by omega) (by simp only [List.length_append]; omega)
      rw [List.flatten_cons, ← List.append_assoc]
      exact (loopN_inl s).trans ih
    · have : i = len := Nat.le_antisymm hi c
      subst this
      refine loopN_inr ?_
      unfold F56_1.s58 F56_1.go58
      simp only [Int.lt_irrefl, decide_false, cond_false, Nat.sub_self, List.take_zero, List.flatten_nil, List.append_nil]
theorem F56_1_eq (k : Nat) (L : List (List Int)) (off len : Nat) (hl : off + len ≤ L.length) (hn : L.length ≤ 8000000) (hf : L.flatten.length ≤ 8000000) (hk : len < k) : F56_1.go k (off, len) (L.map lineA) = some (F56_1.r (L.map lineA) ((L.drop off).take len).flatten) := by
  have hp := flat_part L off len
  have l := F56l k L off len hl hn k 0 [] (Nat.zero_le _) (by omega) (by simp only [List.length_nil, Nat.add_zero, Nat.sub_zero]; omega)
  have l : F56_1.l_58 k (F56_1.i58 0 (off, len) len (L.map lineA) []) = _ := l
  unfold F56_1.go
  rw [l]
  simp only [Option.bind_some, List.nil_append, Nat.add_zero, Nat.sub_zero]
def firstN (n : Int) (of : Nat) : Nat := if 0 ≤ n then (if n > of then of else n.toNat) else if n < -(of : Int) then 0 else ((of : Int) + n).toNat
def lastN (n : Int) (of : Nat) (from_ : Bool) : Nat := bif from_ then (if n < 2 then 0 else if n - 1 > of then of else (n - 1).toNat) else (if n < 1 then of else if n > of then 0 else ((of : Int) - n).toNat)
theorem firstN_le (n : Int) (of : Nat) : firstN n of ≤ of := by
  unfold firstN; split <;> split <;> omega
theorem lastN_le (n : Int) (of : Nat) (f : Bool) : lastN n of f ≤ of := by
  unfold lastN; cases f
  · simp only [cond_false]; split
    · omega
    · split <;> omega
  · simp only [cond_true]; split
    · omega
    · split <;> omega
def i64 (n : Int) : Prop := -9223372036854775808 ≤ n ∧ n ≤ 9223372036854775807
theorem i64_of_wf {n : Int} (h : (Lit.int .i64 n).wf = true) : i64 n := by
  have h2 : (IntKind.i64.min ≤ n ∧ n ≤ IntKind.i64.max) := by
    simpa only [Lit.wf, Bool.and_eq_true, decide_eq_true_eq] using h
  exact h2
theorem F58_eq (k of : Nat) (n : Int) (ho : of ≤ 8000000) (hn : i64 n) : F58.go k of n = some (F58.r (firstN n of : Nat)) := by
  obtain ⟨n1, n2⟩ := hn
  have w0 : IntKind.i64.wrap (0 - (of : Int)) = 0 - (of : Int) := wrap_id (by omega) (by omega)
  unfold F58.go firstN
  by_cases h : n < 0
  · have h' : ¬ 0 ≤ n := by omega
    rw [if_neg h']
    simp only [h, decide_true, cond_true, w0]
    by_cases h1 : n < -(of : Int)
    · have h2 : n < 0 - (of : Int) := by omega
      rw [if_pos h1]
      simp only [h2, decide_true, cond_true]; rfl
    · have h2 : ¬ n < 0 - (of : Int) := by omega
      rw [if_neg h1]
      have w1 : IntKind.i64.wrap ((of : Int) + n) = (((of : Int) + n).toNat : Int) := by rw [wrap_id (by omega) (by omega)]; omega
      simp only [h2, decide_false, cond_false, w1]
  · have h' : 0 ≤ n := by omega
    rw [if_pos h']
    simp only [h, decide_false, cond_false]
    by_cases h1 : n > of
    · have h2 : ¬ n < (of : Int) := by omega
      rw [if_pos h1]
      simp only [h2, decide_false, cond_false]
    · rw [if_neg h1]
      by_cases h2 : n < (of : Int)
      · have : (n.toNat : Int) = n := by omega
        simp only [h2, decide_true, cond_true, this]
      · have : (n.toNat : Int) = (of : Int) := by omega
        simp only [h2, decide_false, cond_false, this]
theorem F63_eq (k of : Nat) (n : Int) (f : Bool) (ho : of ≤ 8000000) (hn : i64 n) : F63.go k of n f = some (F63.r (lastN n of f : Nat)) := by
  obtain ⟨n1, n2⟩ := hn
  unfold F63.go lastN
  cases f
  · simp only [cond_false]
    by_cases h : n < 1
    · rw [if_pos h]; simp only [h, decide_true, cond_true]
    · rw [if_neg h]
      have w1 : IntKind.i64.wrap ((of : Int) - n) = (of : Int) - n := wrap_id (by omega) (by omega)
      simp only [h, decide_false, cond_false, w1]
      by_cases h1 : n > of
      · rw [if_pos h1]
        have h2 : (of : Int) - n < 0 := by omega
        simp only [h2, decide_true, cond_true]; rfl
      · rw [if_neg h1]
        have h2 : ¬ (of : Int) - n < 0 := by omega
        have : (((of : Int) - n).toNat : Int) = (of : Int) - n := by omega
        simp only [h2, decide_false, cond_false, this]
  · simp only [cond_true]
    by_cases h : n < 2
    · rw [if_pos h]; simp only [h, decide_true, cond_true]; rfl
    · rw [if_neg h]
      have w1 : IntKind.i64.wrap (n - 1) = n - 1 := wrap_id (by omega) (by omega)
      simp only [h, decide_false, cond_false, w1]
      by_cases h1 : n - 1 > of
      · rw [if_pos h1]
        have h2 : ¬ n - 1 < (of : Int) := by omega
        simp only [h2, decide_false, cond_false]
      · rw [if_neg h1]
        by_cases h2 : n - 1 < (of : Int)
        · have : ((n - 1).toNat : Int) = n - 1 := by omega
          simp only [h2, decide_true, cond_true, this]
        · have : ((n - 1).toNat : Int) = (of : Int) := by omega
          simp only [h2, decide_false, cond_false, this]
theorem F48_eq (k : Nat) (l : List Int) (h : l.length ≤ 8000000) : F48.go k l = some (F48.r l) := by
  unfold F48.go; simp only [ble1 h, cond_true]
def headS (b : List Int) (n : Int) : List Int := ((piecesF b []).take (firstN n (piecesF b []).length)).flatten
def tailS (b : List Int) (n : Int) (f : Bool) : List Int := ((piecesF b []).drop (lastN n (piecesF b []).length f)).flatten
section
variable (k : Nat) (b : List Int) (n : Int) (f : Bool) (hB : isB b) (hb : b.length ≤ 1048576) (hk : b.length + 2 < k) (hn : i64 n)
include hB hb hk hn
theorem F21_eq : F21.go k b n = some (F21.r (headS b n)) := by
  have hl := piecesF_len b []
  have hf := piecesF_flat b []
  simp only [List.length_nil] at hl
  have hle := firstN_le n (piecesF b []).length
  have z : ((firstN n (piecesF b []).length : Nat) : Int) ≤ ((piecesF b []).length : Int) := by omega
  have z0 : (0 : Int) ≤ ((firstN n (piecesF b []).length : Nat) : Int) := by omega
  have h56 := F56_1_eq k (piecesF b []) 0 (firstN n (piecesF b []).length) (by omega) (by omega) (by rw [hf]; simp; omega) (by omega)
  unfold F21.go
  rw [F54_eq k b hB (by omega) (by omega)]
  simp only [Option.bind_some, List.length_map, F58_eq k _ n (by omega : (piecesF b []).length ≤ 8000000) hn, z, z0, decide_true, Bool.and_self, cond_true, Int.toNat_natCast, Nat.sub_zero, h56, List.drop_zero]
  rfl
theorem F25_eq : F25.go k b n f = some (F25.r (tailS b n f)) := by
  have hl := piecesF_len b []
  have hf := piecesF_flat b []
  simp only [List.length_nil] at hl
  have hle := lastN_le n (piecesF b []).length f
  have z : ((lastN n (piecesF b []).length f : Nat) : Int) ≤ ((piecesF b []).length : Int) := by omega
  have z0 : (0 : Int) ≤ ((lastN n (piecesF b []).length f : Nat) : Int) := by omega
  have h56 := F56_1_eq k (piecesF b []) (lastN n (piecesF b []).length f) ((piecesF b []).length - lastN n (piecesF b []).length f) (by omega) (by omega) (by rw [hf]; simp; omega) (by omega)
  have e : ((piecesF b []).drop (lastN n (piecesF b []).length f)).take ((piecesF b []).length - lastN n (piecesF b []).length f) = (piecesF b []).drop (lastN n (piecesF b []).length f) := by rw [← List.length_drop, List.take_length]
  unfold F25.go
  rw [F54_eq k b hB (by omega) (by omega)]
  simp only [Option.bind_some, List.length_map, F63_eq k _ n f (by omega : (piecesF b []).length ≤ 8000000) hn, z, z0, decide_true, Bool.and_self, cond_true, Int.toNat_natCast, h56, e]
  rfl
theorem F23_eq : F23.go k b n = some (F23.r (b.take (firstN n b.length))) := by
  have hle := firstN_le n b.length
  have z : ((firstN n b.length : Nat) : Int) ≤ (b.length : Int) := by omega
  have z0 : (0 : Int) ≤ ((firstN n b.length : Nat) : Int) := by omega
  have b1 : (b.take (firstN n b.length)).length ≤ 8000000 := by simp; omega
  unfold F23.go
  simp only [F58_eq k _ n (by omega : b.length ≤ 8000000) hn, Option.bind_some, z, z0, decide_true, Bool.and_self, cond_true, Int.toNat_natCast, F48_eq k _ b1]
theorem F27_eq : F27.go k b n f = some (F27.r (b.drop (lastN n b.length f))) := by
  have hle := lastN_le n b.length f
  have z : ((lastN n b.length f : Nat) : Int) ≤ (b.length : Int) := by omega
  have z0 : (0 : Int) ≤ ((lastN n b.length f : Nat) : Int) := by omega
  have b1 : (b.drop (lastN n b.length f)).length ≤ 8000000 := by simp; omega
  unfold F27.go
  simp only [F63_eq k _ n f (by omega : b.length ≤ 8000000) hn, Option.bind_some, z, z0, decide_true, Bool.and_self, cond_true, Int.toNat_natCast, F48_eq k _ b1]
end
def bareS (x : List Int) : List Int := if x.drop (x.length - 1) = [10] then x.take (x.length - 1) else x
theorem bareS_lf (l : List Int) : bareS (l ++ [10]) = l := by
  unfold bareS
  have h1 : (l ++ [10]).length - 1 = l.length := by simp
  rw [h1, List.drop_left, if_pos rfl, List.take_left]
theorem bareS_flat {l : List Int} (h : flat l) : bareS l = l := by
  unfold bareS
  split
  · rename_i e
    have : (10 : Int) ∈ l := List.mem_of_mem_drop (i := l.length - 1) (by rw [e]; exact List.mem_singleton.2 rfl)
    have := h 10 this
    cases this
  · rfl
theorem pieces_bare : ∀ (b line : List Int), flat line → (piecesF b line).map bareS = (linesF b line).1
  | [], line, h => by
    unfold piecesF linesF
    cases e : line.isEmpty
    · simp only [cond_false, List.map_cons, List.map_nil, bareS_flat h]
    · rfl
  | c :: r, line, h => by
    unfold piecesF linesF
    cases e : c == 10
    · simp only [cond_false]
      refine pieces_bare r (line ++ [c]) ?_
      intro x hx
      rcases List.mem_append.1 hx with hx | hx
      · exact h x hx
      · rw [List.mem_singleton] at hx; subst hx; exact e
    · have hc : c = 10 := by simpa using e
      subst hc
      simp only [cond_true, List.map_cons, bareS_lf, pieces_bare r [] (fun _ h => by cases h)]
theorem str_one (c : Int) (h : 0 ≤ c ∧ c ≤ 255) : (ByteArray.toList (strOf [c]) == ByteArray.toList (strOf [10])) = (c == 10) := by
  have h1 : ByteArray.toList (strOf [c]) = [UInt8.ofNat c.toNat] := arr_toList [UInt8.ofNat c.toNat]
  have h2 : ByteArray.toList (strOf [10]) = [10] := arr_toList [10]
  rw [h1, h2, Bool.eq_iff_iff, beq_iff_eq, beq_iff_eq]
  constructor
  · intro e
    injection e with e _
    have : (UInt8.ofNat c.toNat).toNat = (10 : UInt8).toNat := by rw [e]
    rw [UInt8.toNat_ofNat'] at this
    have h3 : (10 : UInt8).toNat = 10 := rfl
    omega
  · intro e; subst e; rfl
theorem F55_eq (k : Nat) (x : List Int) (hB : isB x) (hx : x.length ≤ 8000000) : F55.go k x = some (F55.r (bareS x)) := by
  unfold F55.go F82.go F90.go F93.go
  rcases Nat.eq_zero_or_pos x.length with h0 | h0
  · have : x = [] := List.length_eq_zero_iff.1 h0
    subst this; rfl
  · have g1 : ((x.length : Nat) : Int) ≥ (([10] : List Int).length : Int) := by simp only [List.length_cons, List.length_nil]; omega
    have w : IntKind.i64.wrap (((x.length : Nat) : Int) - (([10] : List Int).length : Int)) = ((x.length - 1 : Nat) : Int) := by
      simp only [List.length_cons, List.length_nil]; rw [wrap_id (by omega) (by omega)]; omega
    have z1 : (0 : Int) ≤ ((x.length - 1 : Nat) : Int) := by omega
    have z2 : ((x.length - 1 : Nat) : Int) ≤ ((x.length : Nat) : Int) := by omega
    have hd : x.drop (x.length - 1) = [x[x.length - 1]'(by omega)] := by
      rw [List.drop_eq_getElem_cons (by omega), List.drop_eq_nil_of_le (by omega)]
    have hs := str_one (x[x.length - 1]'(by omega)) (hB _ (List.getElem_mem _))
    simp only [g1, decide_true, cond_true, w, z1, z2, Bool.and_self, Int.toNat_natCast, Option.bind_some]
    unfold bareS
    rw [hd, hs]
    cases e : x[x.length - 1]'(by omega) == 10
    · rw [beq_eq_false_iff_ne] at e
      rw [if_neg (by intro h; injection h with h; exact e h)]
      rfl
    · rw [beq_iff_eq] at e
      rw [if_pos (by rw [e])]
      rfl
theorem pieces_isB {b : List Int} (hB : isB b) : ∀ x ∈ piecesF b [], isB x := by
  intro x hx n hn
  have : n ∈ (piecesF b []).flatten := List.mem_flatten.2 ⟨x, hx, hn⟩
  rw [piecesF_flat] at this
  exact hB n (by simpa using this)
theorem flat_mem_len {L : List (List Int)} {x : List Int} (h : x ∈ L) : x.length ≤ L.flatten.length := by
  obtain ⟨s, t, e⟩ := List.append_of_mem h
  rw [e, List.flatten_append, List.flatten_cons]; simp only [List.length_append]; omega
theorem pieces_mem_len {b : List Int} : ∀ x ∈ piecesF b [], x.length ≤ b.length := by
  intro x hx
  have h1 : (piecesF b []).flatten.length = b.length := by rw [piecesF_flat]; simp
  have h2 := flat_mem_len hx
  omega
theorem F15l (k0 : Nat) (b : List Int) (hB : isB b) (hb : b.length ≤ 8000000) : ∀ (k i : Nat) (P : List (List Int)), i ≤ (piecesF b []).length → (piecesF b []).length - i < k → P.length = i →
    loopN (F15.s58 k0) k (F15.i58 i b (piecesF b []).length (P.map lineA) ((piecesF b []).map lineA)) = some (F15.r58 b ((P ++ ((piecesF b []).drop i).map bareS).map lineA))
  | 0, i, P, _, hk, _ => absurd hk (Nat.not_lt_zero _)
  | k + 1, i, P, hi, hk, hP => by
    have hln := piecesF_len b []
    simp only [List.length_nil] at hln
    rcases Nat.lt_or_ge i (piecesF b []).length with c | c
    · have h0 : (i : Int) < ((piecesF b []).length : Int) := by omega
      have h0' : (0 : Int) ≤ (i : Int) := by omega
      have h0'' : (i : Int) < (((piecesF b []).map lineA).length : Int) := by rw [List.length_map]; exact h0
      have hw : IntKind.i64.wrap ((i : Int) + 1) = ((i + 1 : Nat) : Int) := by rw [wrap_id (by omega) (by omega)]; rfl
      have hg : AV.ints! (((piecesF b []).map lineA).getD i (AV.tuple [])) = (piecesF b [])[i] := by rw [Go.Ev.getD_in (by rw [List.length_map]; exact c), List.getElem_map]; rfl
      have hpl := pieces_mem_len _ (List.getElem_mem c)
      have h55 := F55_eq k0 ((piecesF b [])[i]) (pieces_isB hB _ (List.getElem_mem c)) (by omega)
      have hbl : (bareS ((piecesF b [])[i])).length ≤ (piecesF b [])[i].length := by
        unfold bareS
        split
        · rw [List.length_take]; omega
        · exact Nat.le_refl _
      have h48 := F48_eq k0 (bareS ((piecesF b [])[i])) (by omega)
      have e1 : P.map lineA ++ [AV.ro false (Lst.I IntKind.u8 (bareS ((piecesF b [])[i])))] = (P ++ [bareS ((piecesF b [])[i])]).map lineA := by simp [lineA]
      have b1 : ((P ++ [bareS ((piecesF b [])[i])]).map lineA).length ≤ 8000000 := by simp; omega
      have s : F15.s58 k0 (F15.i58 i b (piecesF b []).length (P.map lineA) ((piecesF b []).map lineA)) = some (.inl (F15.i58 (i + 1 : Nat) b (piecesF b []).length ((P ++ [bareS ((piecesF b [])[i])]).map lineA) ((piecesF b []).map lineA))) := by
        unfold F15.s58 F15.go58
        simp only [h0, h0', h0'', decide_true, cond_true, Bool.and_self, Int.toNat_natCast, hg, h55, h48, Option.bind_some, e1, ble24 b1, hw]
      have ih := F15l k0 b hB hb k (i + 1) (P ++ [bareS ((piecesF b [])[i])]) c (by omega) (by simp; omega)
      rw [List.append_assoc, List.singleton_append] at ih
      rw [List.drop_eq_getElem_cons c, List.map_cons]
      exact (loopN_inl s).trans ih
    · have : i = (piecesF b []).length := Nat.le_antisymm hi c
      subst this
      refine loopN_inr ?_
      unfold F15.s58 F15.go58
      simp only [Int.lt_irrefl, decide_false, cond_false, List.drop_length, List.map_nil, List.append_nil]
theorem ble16 {n : Nat} (h : n ≤ 8000000) : (Nat.ble (n * 16) 140737488355328 && Nat.ble n 9223372036854775807) = true := by
  rw [Nat.ble_eq_true_of_le (by omega), Nat.ble_eq_true_of_le (by omega)]; rfl
def chF {α : Type} (n : Nat) : Nat → List α → List (List α)
  | 0, _ => []
  | f + 1, l => bif l.isEmpty then [] else l.take n :: chF n f (l.drop n)
theorem chF_nil {α : Type} (n f : Nat) : chF n f ([] : List α) = [] := by cases f <;> rfl
theorem chF_cons {α : Type} (n f : Nat) (l : List α) (h : 0 < l.length) : chF n (f + 1) l = l.take n :: chF n f (l.drop n) := by
  cases l with
  | nil => exact absurd h (Nat.lt_irrefl _)
  | cons x r => rfl
theorem chF_len {α : Type} (n : Nat) (hn : 1 ≤ n) : ∀ (f : Nat) (l : List α), (chF n f l).length ≤ l.length
  | 0, l => Nat.zero_le _
  | f + 1, l => by
    rcases Nat.eq_zero_or_pos l.length with h | h
    · have : l = [] := List.length_eq_zero_iff.1 h
      subst this; rw [chF_nil]; exact Nat.le_refl _
    · rw [chF_cons n f l h]
      have := chF_len n hn f (l.drop n)
      rw [List.length_drop] at this
      rw [List.length_cons]; omega
theorem take_min {α : Type} (l : List α) (n : Nat) : l.take (min l.length n) = l.take n := by
  rcases Nat.le_total l.length n with h | h
  · rw [Nat.min_eq_left h, List.take_length, List.take_of_length_le h]
  · rw [Nat.min_eq_right h]
theorem drop_min {α : Type} (l : List α) (n : Nat) : l.drop (min l.length n) = l.drop n := by
  rcases Nat.le_total l.length n with h | h
  · rw [Nat.min_eq_left h, List.drop_length, List.drop_eq_nil_of_le h]
  · rw [Nat.min_eq_right h]
theorem min_int (m n : Nat) : (bif decide ((m : Int) < (n : Int)) then (m : Int) else (n : Int)) = ((min m n : Nat) : Int) := by
  by_cases h : m < n
  · have : (m : Int) < (n : Int) := by omega
    simp only [this, decide_true, cond_true]; omega
  · have : ¬ (m : Int) < (n : Int) := by omega
    simp only [this, decide_false, cond_false]; omega
/-- by bytes -/
theorem F29b (k0 : Nat) (n : Nat) (hn : 1 ≤ n) (pre : ByteArray) : ∀ (k f : Nat) (b : List Int) (O : List (List Int)), b.length ≤ 8000000 → b.length < k → b.length ≤ f → O.length ≤ 677 →
    loopN (F29.s246 k0) k (F29.i246 b n pre (O.map lineA)) = some (F29.r246 pre ((O ++ (chF n f b).take (677 - O.length)).map lineA))
  | 0, f, b, O, _, hk, _, _ => absurd hk (Nat.not_lt_zero _)
  | k + 1, f, b, O, hb, hk, hf, hO => by
    rcases Nat.eq_zero_or_pos b.length with h | h
    · have : b = [] := List.length_eq_zero_iff.1 h
      subst this
      refine loopN_inr ?_
      rw [chF_nil, List.take_nil, List.append_nil]
      unfold F29.s246 F29.go246
      rfl
    · have d0 : ((b.length : Nat) : Int) > 0 := by omega
      by_cases q : O.length < 677
      · match f, hf with
        | 0, hf => omega
        | f + 1, hf =>
        have d1 : (((O.map lineA).length : Nat) : Int) < 677 := by rw [List.length_map]; omega
        have z1 : (0 : Int) ≤ ((min b.length n : Nat) : Int) := by omega
        have z2 : ((min b.length n : Nat) : Int) ≤ ((b.length : Nat) : Int) := by omega
        have h48 := F48_eq k0 (b.take n) (by rw [List.length_take]; omega)
        have e1 : O.map lineA ++ [AV.ro false (Lst.I IntKind.u8 (b.take n))] = (O ++ [b.take n]).map lineA := by simp [lineA]
        have b1 : ((O ++ [b.take n]).map lineA).length ≤ 8000000 := by simp; omega
        have s : F29.s246 k0 (F29.i246 b n pre (O.map lineA)) = some (.inl (F29.i246 (b.drop n) n pre ((O ++ [b.take n]).map lineA))) := by
          unfold F29.s246 F29.go246
          simp only [d0, d1, decide_true, cond_true, min_int, z1, z2, Bool.and_self, Int.toNat_natCast, take_min, drop_min, h48, Option.bind_some, e1, ble24 b1]
        have hl : (b.drop n).length = b.length - n := List.length_drop
        have ih := F29b k0 n hn pre k f (b.drop n) (O ++ [b.take n]) (by omega) (by omega) (by omega) (by simp; omega)
        rw [chF_cons n f b h]
        have e2 : 677 - O.length = (677 - (O ++ [b.take n]).length) + 1 := by simp only [List.length_append, List.length_cons, List.length_nil]; omega
        rw [e2, List.take_succ_cons]
        rw [List.append_assoc, List.singleton_append] at ih
        exact (loopN_inl s).trans ih
      · have d1 : ¬ (((O.map lineA).length : Nat) : Int) < 677 := by rw [List.length_map]; omega
        have e2 : 677 - O.length = 0 := by omega
        refine loopN_inr ?_
        rw [e2, List.take_zero, List.append_nil]
        unfold F29.s246 F29.go246
        simp only [d0, d1, decide_true, cond_true, decide_false, cond_false]
theorem names_ex (k0 : Nat) (pre : ByteArray) (hp : pre.size ≤ 8000000) (n : Nat) (hn : n ≤ 8000000) (out : List AV) : ∀ (k i : Nat) (N : List ByteArray), i ≤ n → n - i < k → N.length = i →
    ∃ N' : List ByteArray, N'.length = n ∧ loopN (F29.s1018 k0) k (F29.i1018 i pre n N out) = some (F29.r1018 out N')
  | 0, i, N, _, hk, _ => absurd hk (Nat.not_lt_zero _)
  | k + 1, i, N, hi, hk, hN => by
    rcases Nat.lt_or_ge i n with c | c
    · have h0 : (i : Int) < (n : Int) := by omega
      have hw : IntKind.i64.wrap ((i : Int) + 1) = ((i + 1 : Nat) : Int) := by rw [wrap_id (by omega) (by omega)]; rfl
      have hs2 : ∀ x y : Int, (strOf [x, y]).size = 2 := fun x y => rfl
      have hp2 : pre.size + 2 ≤ 9223372036854775807 := by omega
      have s : ∃ z, F29.s1018 k0 (F29.i1018 i pre n N out) = some (.inl (F29.i1018 (i + 1 : Nat) pre n (N ++ [z]) out)) := by
        refine ⟨{ data := { toList := Array.toList (ByteArray.data pre) ++ Array.toList (ByteArray.data (strOf [IntKind.u8.wrap (IntKind.i64.wrap (97 + IntKind.i64.wrap (Int.tdiv i 26))), IntKind.u8.wrap (IntKind.i64.wrap (97 + Int.tmod i 26))])) } }, ?_⟩
        unfold F29.s1018 F29.go1018
        simp only [h0, decide_true, cond_true, hs2, hp2]
        have b1 : ∀ z : ByteArray, (N ++ [z]).length ≤ 8000000 := fun z => by simp; omega
        simp only [ble16 (b1 _), cond_true, hw]
      obtain ⟨z, s⟩ := s
      obtain ⟨N', hl, ih⟩ := names_ex k0 pre hp n hn out k (i + 1) (N ++ [z]) c (by omega) (by simp; omega)
      exact ⟨N', hl, (loopN_inl s).trans ih⟩
    · have : i = n := Nat.le_antisymm hi c
      subst this
      refine ⟨N, hN, loopN_inr ?_⟩
      unfold F29.s1018 F29.go1018
      simp only [Int.lt_irrefl, decide_false, cond_false]
abbrev big : Nat := 140737488351232
theorem bleB {n : Nat} (h : n ≤ big) : (Nat.ble (n * 1) 140737488355328 && Nat.ble n 9223372036854775807) = true := by
  have h : n ≤ 140737488351232 := h
  rw [Nat.ble_eq_true_of_le (by omega), Nat.ble_eq_true_of_le (by omega)]; rfl
theorem lt_dec {i n : Nat} (h : i < n) : decide ((i : Int) < (n : Int)) = true := decide_eq_true (by omega)
theorem lt_dec' {n : Nat} : decide ((n : Int) < (n : Int)) = false := decide_eq_false (by omega)
theorem dec0 (p : Nat) : decide ((0 : Int) ≤ (p : Int)) = true := decide_eq_true (by omega)
theorem wadd (a b : Nat) (h : a + b ≤ big) : IntKind.i64.wrap ((a : Int) + (b : Int)) = ((a + b : Nat) : Int) := by
  have h' : a + b ≤ 140737488351232 := h
  rw [wrap_id (by omega) (by omega)]; omega
theorem wz (n : Nat) (h : n ≤ big) : IntKind.i64.wrap (n : Int) = (n : Int) := by
  have h' : n ≤ 140737488351232 := h
  rw [wrap_id (by omega) (by omega)]
theorem wadd1 (a : Nat) (h : a < big) : IntKind.i64.wrap ((a : Int) + 1) = ((a + 1 : Nat) : Int) := by
  have h' : a < 140737488351232 := h
  rw [wrap_id (by omega) (by omega)]; omega
theorem wsub (a b : Nat) (h : b ≤ a) (ha : a ≤ big) : IntKind.i64.wrap ((a : Int) - (b : Int)) = ((a - b : Nat) : Int) := by
  have h' : a ≤ 140737488351232 := ha
  rw [wrap_id (by omega) (by omega)]; omega
theorem and_mask (n : Nat) (h : n < 4294967296) : (BitVec.ofInt 64 (n : Int) &&& BitVec.ofInt 64 4294967295).toNat = n := by
  rw [BitVec.toNat_and]
  have h1 : (BitVec.ofInt 64 (n : Int)).toNat = n := by
    rw [BitVec.toNat_ofInt]
    show ((n : Int) % ((2 ^ 64 : Nat) : Int)).toNat = n
    omega
  have h2 : (BitVec.ofInt 64 4294967295).toNat = 2 ^ 32 - 1 := rfl
  rw [h1, h2, Nat.and_two_pow_sub_one_eq_mod]
  omega
theorem wu (n : Nat) (h : n < 4294967296) : IntKind.u64.wrap (n : Int) = (n : Int) := by
  unfold IntKind.wrap
  simp [IntKind.bits, IntKind.signed]
  omega
theorem F97_eq (k n : Nat) (h : n < 4294967296) : F97.go k 1 (n : Int) = some (((0, (n : Int), ()), ()), (), ()) := by
  have f1 : Int.fdiv 1 4294967296 = 0 := rfl
  have f2 : Int.fdiv (n : Int) 4294967296 = 0 := by
    rw [Int.fdiv_eq_ediv_of_nonneg _ (by omega)]; omega
  have m1 : (BitVec.ofInt 64 1 &&& BitVec.ofInt 64 4294967295).toNat = 1 := rfl
  have m2 := and_mask n h
  have w0 : IntKind.u64.wrap 0 = 0 := rfl
  have wn := wu n h
  have m0 : (BitVec.ofInt 64 0 &&& BitVec.ofInt 64 4294967295).toNat = 0 := rfl
  have f0 : Int.fdiv 0 4294967296 = 0 := rfl
  have w1 : IntKind.u64.wrap 1 = 1 := rfl
  have c1 : ((1 : Nat) : Int) = 1 := rfl
  have c0 : ((0 : Nat) : Int) = 0 := rfl
  unfold F97.go F101.go
  simp only [f1, f2, m1, m2, wn, w0, w1, c1, Int.one_mul, Int.zero_mul, Int.mul_zero, Int.add_zero, Int.zero_add, f0, m0, c0, Option.bind_some]
theorem F91_eq (k n : Nat) (x : Int) (h : n ≤ 2000000000) (hk : n + 1 < k) : F91.go k [x] (n : Int) = some (.inl (((0, n), ()), (List.replicate n x, ()), ())) := by
  have hl : (([x] : List Int).length : Int) = 1 := rfl
  by_cases h0 : n = 0
  · subst h0; rfl
  · have d1 : (((n : Nat) : Int) == 0) = false := by rw [beq_eq_false_iff_ne]; omega
    have d2 : decide ((n : Int) < 0) = false := decide_eq_false (by omega)
    have w1 : IntKind.u64.wrap 1 = 1 := rfl
    have w2 := wu n (by omega)
    have d3 : decide ((0 : Int) > 0) = false := rfl
    have d4 : decide ((n : Int) > 9223372036854775807) = false := decide_eq_false (by omega)
    have w3 := wz n (by show _ ≤ 140737488351232; omega)
    have e1 : ((1 : Int) == 0) = false := rfl
    have run : ∀ cm : Int, 1 ≤ cm → F91.l_1023 k ((cm, (n : Int), [x], ()), (), ()) = some (((0, n), ()), (List.replicate n x, ()), ()) := by
      intro cm hcm
      have g1 : decide ((1 : Int) ≤ (n : Int)) = true := decide_eq_true (by omega)
      have g2 : decide ((n : Int) ≤ 281474976710656) = true := decide_eq_true (by omega)
      have g3 : decide ((1 : Int) ≤ cm) = true := decide_eq_true hcm
      have g4 : Nat.ble (n + 1) k = true := Nat.ble_eq_true_of_le (by omega)
      unfold F91.l_1023
      simp only [g1, g2, g3, Int.toNat_natCast, g4, Bool.true_and]
      rfl
    unfold F91.go
    simp only [d1, d2, cond_false, hl, w1, w2, F97_eq k n (by omega), Option.bind_some, d3, d4]
    unfold F91.go63
    simp only [hl, e1, cond_false, w3]
    by_cases hb : 8192 < n
    · have d5 : decide ((n : Int) > 8192) = true := decide_eq_true (by omega)
      have t1 : Int.tdiv 8192 1 = 8192 := rfl
      have w4 : IntKind.i64.wrap (IntKind.i64.wrap 8192 * 1) = 8192 := rfl
      have e2 : ((8192 : Int) == 0) = false := rfl
      simp only [d5, cond_true, t1, w4, e2, cond_false, run 8192 (by omega), Option.bind_some]
    · have d5 : decide ((n : Int) > 8192) = false := decide_eq_false (by omega)
      simp only [d5, cond_false, run (n : Int) (by omega), Option.bind_some]
theorem F70_eq (k n : Nat) (h : n ≤ 2000000000) (hk : n + 1 < k) : F70.go k (n : Int) = some (.inl (((), ()), (List.replicate n 32, ()), ())) := by
  have hs : ((({ data := { toList := [] : Array UInt8 } : ByteArray } : ByteArray).size : Nat) : Int) = 0 := rfl
  have hb : bytesOf ({ data := { toList := [] : Array UInt8 } : ByteArray }) = [] := rfl
  have w1 : IntKind.i64.wrap ((n : Int) - 0) = (n : Int) := by rw [Int.sub_zero]; exact wz n (by show _ ≤ 140737488351232; omega)
  have d1 : decide ((n : Int) < 0) = false := decide_eq_false (by omega)
  have b1 := bleB (n := (List.replicate n (32 : Int)).length) (by rw [List.length_replicate]; show _ ≤ 140737488351232; omega)
  have t1 : List.take n (List.drop 0 (List.replicate n (32 : Int))) = List.replicate n 32 := by rw [List.drop_zero, List.take_of_length_le (by rw [List.length_replicate]; omega)]
  unfold F70.go F83.go
  simp only [hs, w1, d1, cond_false, F91_eq k n 32 h hk, Option.bind_some, Sum.elim_inl, hb, List.append_nil, t1, b1, cond_true]
theorem gD {l : List Int} {i : Nat} (h : i < l.length) : l.getD i 0 = l[i] := Go.Ev.getD_in h
def okAt (l : List Int) (i : Nat) : Bool := !decide (l.getD i 0 < 1) && (Nat.beq i 0 || !decide (l.getD i 0 ≤ l.getD (i - 1) 0))
def vF (l : List Int) : Nat → Nat → Bool
  | 0, _ => true
  | m + 1, i => okAt l i && vF l m (i + 1)
theorem wpred (i : Nat) (h : i < big) : IntKind.i64.wrap (((i + 1 : Nat) : Int) - 1) = (i : Int) := by
  have h' : i < 140737488351232 := h
  rw [wrap_id (by omega) (by omega)]; omega
def vS (l : List Int) : Bool := vF l l.length 0
theorem F67_loop (k : Nat) (l : List Int) (hl : l.length ≤ 1048576) : ∀ (m i fu : Nat), i + m = l.length → m < fu →
    loopN (F67.s58 k) fu (((i : Int), l, l, (l.length : Int), ()), (), ()) = some (bif vF l m i then .inr ((l, ()), (), ()) else .inl (((), 22, ()), (), ())) := by
  intro m
  induction m with
  | zero =>
    intro i fu hi hf
    obtain ⟨fu, rfl⟩ : ∃ f', fu = f' + 1 := ⟨fu - 1, by omega⟩
    have hie : i = l.length := by omega
    subst hie
    refine loopN_inr ?_
    simp only [F67.s58, F67.go58, lt_dec', cond_false]; rfl
  | succ m ih =>
    intro i fu hi hf
    obtain ⟨fu, rfl⟩ : ∃ f', fu = f' + 1 := ⟨fu - 1, by omega⟩
    have hil : i < l.length := by omega
    have w1 := wadd1 i (by show _ < 140737488351232; omega)
    have ih' := ih (i + 1) fu (by omega) (by omega)
    rw [vF]
    unfold okAt
    cases h1 : decide (l.getD i 0 < 1)
    · cases i with
      | zero =>
        rw [loopN_inl (x' := ((((0 + 1 : Nat) : Int), l, l, (l.length : Int), ()), (), ()))]
        · rw [ih']; rfl
        · have d3 : decide (((0 : Nat) : Int) > 0) = false := rfl
          simp only [F67.s58, F67.go58, lt_dec hil, dec0, Bool.true_and, cond_true, Int.toNat_natCast, h1, cond_false, d3, w1]
      | succ j =>
        have d3 : decide (((j + 1 : Nat) : Int) > 0) = true := decide_eq_true (by omega)
        have wp := wpred j (by show _ < 140737488351232; omega)
        have hj : j < l.length := by omega
        have hn : Nat.beq (j + 1) 0 = false := rfl
        rw [hn, Nat.add_sub_cancel]
        cases h2 : decide (l.getD (j + 1) 0 ≤ l.getD j 0)
        · rw [loopN_inl (x' := ((((j + 1 + 1 : Nat) : Int), l, l, (l.length : Int), ()), (), ()))]
          · rw [ih']; rfl
          · simp only [F67.s58, F67.go58, lt_dec hil, lt_dec hj, dec0, Bool.true_and, cond_true, Int.toNat_natCast, h1, cond_false, d3, wp, h2, w1]
        · refine loopN_inr ?_
          simp only [F67.s58, F67.go58, lt_dec hil, lt_dec hj, dec0, Bool.true_and, cond_true, Int.toNat_natCast, h1, cond_false, d3, wp, h2]
          rfl
    · refine loopN_inr ?_
      simp only [F67.s58, F67.go58, lt_dec hil, dec0, Bool.true_and, cond_true, Int.toNat_natCast, h1]
      rfl
theorem F67_nil (k : Nat) : F67.go k [] = some (.inl ((((), 0, ()), ()), ([8], ()), ())) := rfl
theorem F67_eq (k : Nat) (l : List Int) (h0 : l ≠ []) (hl : l.length ≤ 1048576) (hk : l.length < k) : F67.go k l = some (bif vS l then .inr (.inr (((l, 0, ()), ()), (), ())) else .inr (.inl ((((), 22, ()), ()), (), ()))) := by
  have := F67_loop k l hl l.length 0 k (by omega) hk
  have e0 : ((0 : Nat) : Int) = 0 := rfl
  have e1 : (((l.length : Nat) : Int) == 0) = false := by
    rw [beq_eq_false_iff_ne]
    have := List.length_pos_iff.2 h0
    omega
  rw [e0] at this
  unfold F67.go F67.l_58 vS
  rw [this, Option.bind_some, e1, cond_false]
  cases vF l l.length 0 <;> rfl
def stG (st : List Int) : Prop := ∀ x ∈ st, 1 ≤ x ∧ x ≤ 1000
def firstG (at_ : Nat) (l : List Int) : Option Int := l.find? fun x => decide (x > (at_ : Int))
def nx (st : List Int) (at_ : Nat) : Option Nat :=
  match st with
  | [] => some ((at_ / 8 + 1) * 8)
  | [x] => some ((at_ / x.toNat + 1) * x.toNat)
  | x :: y :: r => (firstG at_ (x :: y :: r)).map Int.toNat
def tabN (st : List Int) (at_ : Nat) : Nat := (nx st at_).getD (at_ + 1)
theorem firstG_ok {at_ : Nat} {l : List Int} {x : Int} (h : firstG at_ l = some x) : x ∈ l ∧ (at_ : Int) < x := by
  unfold firstG at h
  exact ⟨List.mem_of_find?_eq_some h, by have := List.find?_some h; simpa using this⟩
theorem nx_ok {st : List Int} (hs : stG st) {at_ v : Nat} (h : nx st at_ = some v) : at_ < v ∧ v ≤ at_ + 1000 := by
  match st, hs, h with
  | [], hs, h =>
    injection h with h; subst h
    omega
  | [x], hs, h =>
    injection h with h
    have hx := hs x (List.mem_singleton.2 rfl)
    obtain ⟨n, hn⟩ : ∃ n : Nat, x = (n : Int) := ⟨x.toNat, by omega⟩
    subst hn
    rw [Int.toNat_natCast, Nat.add_mul, Nat.one_mul] at h
    have h1 := Nat.div_add_mod at_ n
    have h2 := Nat.mod_lt at_ (show 0 < n by omega)
    have h3 : at_ / n * n = n * (at_ / n) := Nat.mul_comm _ _
    omega
  | x :: y :: r, hs, h =>
    simp only [nx] at h
    cases hf : firstG at_ (x :: y :: r) with
    | none => rw [hf] at h; cases h
    | some z =>
      rw [hf] at h
      injection h with h
      obtain ⟨h1, h2⟩ := firstG_ok hf
      have := hs z h1
      omega
theorem tabN_ok {st : List Int} (hs : stG st) (at_ : Nat) : at_ < tabN st at_ ∧ tabN st at_ ≤ at_ + 1000 := by
  unfold tabN
  cases h : nx st at_ with
  | none => exact ⟨Nat.lt_succ_self _, by show at_ + 1 ≤ _; omega⟩
  | some v => exact nx_ok hs h
def outN (at_ : Nat) : Option Nat → Int × Bool
  | some v => ((v : Int), true)
  | none => (((at_ + 1 : Nat) : Int), false)
theorem F69_loop (k at_ : Nat) (l : List Int) (hl : l.length ≤ 1048576) : ∀ (m i fu : Nat), i + m = l.length → m < fu →
    loopN (F69.s58 k) fu (((i : Int), (at_ : Int), l, (l.length : Int), ()), (), ()) = some (match firstG at_ (l.drop i) with | some x => .inl ((x, true, ()), (), ()) | none => .inr (((at_ : Int), ()), (), ())) := by
  intro m
  induction m with
  | zero =>
    intro i fu hi hf
    obtain ⟨fu, rfl⟩ : ∃ f', fu = f' + 1 := ⟨fu - 1, by omega⟩
    have hie : i = l.length := by omega
    subst hie
    refine loopN_inr ?_
    simp only [F69.s58, F69.go58, lt_dec', cond_false, List.drop_length]; rfl
  | succ m ih =>
    intro i fu hi hf
    obtain ⟨fu, rfl⟩ : ∃ f', fu = f' + 1 := ⟨fu - 1, by omega⟩
    have hil : i < l.length := by omega
    have w1 := wadd1 i (by show _ < 140737488351232; omega)
    have hd := drop_int hil
    have e : firstG at_ (l.drop i) = (bif decide (l[i] > (at_ : Int)) then some l[i] else firstG at_ (l.drop (i + 1))) := by
      rw [hd]; unfold firstG; rw [List.find?_cons]; cases decide (l[i] > (at_ : Int)) <;> rfl
    cases h1 : decide (l[i] > (at_ : Int))
    · rw [loopN_inl (x' := ((((i + 1 : Nat) : Int), (at_ : Int), l, (l.length : Int), ()), (), ()))]
      · rw [ih (i + 1) fu (by omega) (by omega), e, h1]; rfl
      · simp only [F69.s58, F69.go58, lt_dec hil, dec0, Bool.true_and, cond_true, Int.toNat_natCast, gD hil, h1, cond_false, w1]
    · refine loopN_inr ?_
      rw [e, h1]
      simp only [F69.s58, F69.go58, lt_dec hil, dec0, Bool.true_and, cond_true, Int.toNat_natCast, gD hil, h1]
/-- the stops as the program keeps them -/
def own8 (st : List Int) : List Int := bif st.isEmpty then [8] else st
theorem one_next (at_ n : Nat) (h1 : 1 ≤ n) : at_ + n - at_ % n = (at_ / n + 1) * n := by
  have h2 := Nat.div_add_mod at_ n
  have h3 : at_ / n * n = n * (at_ / n) := Nat.mul_comm _ _
  rw [Nat.add_mul, Nat.one_mul]; omega
theorem F69_one (k at_ n : Nat) (h1 : 1 ≤ n) (h2 : n ≤ 1000) (ha : at_ ≤ 2000000000) : F69.go k [(n : Int)] (at_ : Int) = some ((((((at_ / n + 1) * n : Nat) : Int), true, ()), ()), (), ()) := by
  have e0 : ((n : Int) == 0) = false := by rw [beq_eq_false_iff_ne]; omega
  have w1 := wadd at_ n (by show _ ≤ 140737488351232; omega)
  have tm : Int.tmod (at_ : Int) (n : Int) = ((at_ % n : Nat) : Int) := rfl
  have hm := Nat.mod_lt at_ (show 0 < n by omega)
  have w2 := wsub (at_ + n) (at_ % n) (by omega) (by show _ ≤ 140737488351232; omega)
  unfold F69.go
  show (bif ((n : Int) == 0) then none else some (((IntKind.i64.wrap (IntKind.i64.wrap ((at_ : Int) + (n : Int)) - Int.tmod (at_ : Int) (n : Int)), true, ()), ()), (), ())) = _
  rw [e0, cond_false, w1, tm, w2, one_next at_ n h1]
theorem F69_eq (k : Nat) (st : List Int) (hs : stG st) (at_ : Nat) (ha : at_ ≤ 2000000000) (hl : st.length ≤ 1048576) (hk : st.length < k) : F69.go k (own8 st) (at_ : Int) = some ((((outN at_ (nx st at_)).1, (outN at_ (nx st at_)).2, ()), ()), (), ()) := by
  match st, hs, hl, hk with
  | [], hs, hl, hk => exact F69_one k at_ 8 (by omega) (by omega) ha
  | [x], hs, hl, hk =>
    have hx := hs x (List.mem_singleton.2 rfl)
    obtain ⟨n, hn⟩ : ∃ n : Nat, x = (n : Int) := ⟨x.toNat, by omega⟩
    subst hn
    exact F69_one k at_ n (by omega) (by omega) ha
  | x :: y :: r, hs, hl, hk =>
    have loop := F69_loop k at_ (x :: y :: r) hl (x :: y :: r).length 0 k (by omega) hk
    have e0 : ((0 : Nat) : Int) = 0 := rfl
    rw [e0, List.drop_zero] at loop
    have e1 : (((x :: y :: r).length : Int) == 1) = false := by
      rw [beq_eq_false_iff_ne]; simp only [List.length_cons]; omega
    show F69.go k (x :: y :: r) (at_ : Int) = _
    unfold F69.go F69.l_58
    rw [e1, cond_false, loop, Option.bind_some]
    simp only [nx]
    cases hf : firstG at_ (x :: y :: r) with
    | none =>
      have w1 := wadd1 at_ (by show _ < 140737488351232; omega)
      simp only [Sum.elim_inr, w1]; rfl
    | some z =>
      obtain ⟨h1, h2⟩ := firstG_ok hf
      have hz : z = ((z.toNat : Nat) : Int) := by omega
      simp only [Sum.elim_inl]
      show some (((z, true, ()), ()), (), ()) = some (((((z.toNat : Nat) : Int), true, ()), ()), (), ())
      rw [← hz]
theorem outN_tab (st : List Int) (at_ : Nat) : (outN at_ (nx st at_)).1 = ((tabN st at_ : Nat) : Int) := by
  unfold tabN
  cases nx st at_ <;> rfl
def stN (st : List Int) (at_ : Nat) (c : Int) : Nat := bif c == 9 then tabN st at_ else bif c == 10 then 0 else wideN at_ c
def ex (st : List Int) (at_ : Nat) (c : Int) : List Int := bif c == 9 then List.replicate (tabN st at_ - at_) 32 else [c]
def expS (st : List Int) : Nat → List Int → List Int
  | _, [] => []
  | a, c :: r => ex st a c ++ expS st (stN st a c) r
theorem wide1 (a : Nat) (c : Int) (h : (c == 9) = false) : wideN a c ≤ a + 1 := by
  unfold wideN
  rw [h, cond_false]
  cases c == 8 <;> cases c == 13 <;> simp only [cond_true, cond_false] <;> omega
theorem stN_le {st : List Int} (hs : stG st) (a : Nat) (c : Int) : stN st a c ≤ a + 1000 := by
  unfold stN
  cases h : c == 9
  · have := wide1 a c h
    cases c == 10 <;> simp only [cond_true, cond_false] <;> omega
  · exact (tabN_ok hs a).2
theorem ex_le {st : List Int} (hs : stG st) (a : Nat) (c : Int) : (ex st a c).length ≤ 1000 := by
  unfold ex
  cases c == 9
  · show 1 ≤ 1000; omega
  · have := tabN_ok hs a
    rw [cond_true, List.length_replicate]; omega
theorem F68_eq (k a : Nat) (c : Int) (h : (c == 9) = false) (ha : a ≤ 2000000000) : F68.go k (a : Int) c = some (((((bif c == 10 then 0 else wideN a c) : Nat) : Int), ()), (), ()) := by
  unfold F68.go
  cases c == 10
  · rw [h, cond_false, cond_false, F46_eq k a c ha]; rfl
  · rfl
theorem F38_loop (k : Nat) (st b : List Int) (hs : stG st) (hb : b.length ≤ 1048576) (hl : st.length ≤ 1048576) (hk : st.length < k) (hk2 : 2000 < k) :
    ∀ (m i a : Nat) (acc : List Int) (fu : Nat), i + m = b.length → a ≤ 1000 * i → acc.length ≤ 1000 * i → m < fu →
      loopN (F38.s506 k) fu (((i : Int), (a : Int), (), own8 st, b, (b.length : Int), ()), (acc, ()), ()) = some (.inr (((), ()), (acc ++ expS st a (b.drop i), ()), ())) := by
  intro m
  induction m with
  | zero =>
    intro i a acc fu hi ha hacc hf
    obtain ⟨fu, rfl⟩ : ∃ f', fu = f' + 1 := ⟨fu - 1, by omega⟩
    have hie : i = b.length := by omega
    subst hie
    refine loopN_inr ?_
    simp only [F38.s506, F38.go506, lt_dec', cond_false, List.drop_length]
    simp [expS]
  | succ m ih =>
    intro i a acc fu hi ha hacc hf
    obtain ⟨fu, rfl⟩ : ∃ f', fu = f' + 1 := ⟨fu - 1, by omega⟩
    have hil : i < b.length := by omega
    have w1 := wadd1 i (by show _ < 140737488351232; omega)
    have hd := drop_int hil
    have hst := stN_le hs a b[i]
    have hex := ex_le hs a b[i]
    have hnext := ih (i + 1) (stN st a b[i]) (acc ++ ex st a b[i]) fu (by omega) (by omega) (by rw [List.length_append]; omega) (by omega)
    rw [loopN_inl (x' := ((((i + 1 : Nat) : Int), ((stN st a b[i] : Nat) : Int), (), own8 st, b, (b.length : Int), ()), (acc ++ ex st a b[i], ()), ()))]
    · rw [hnext, hd, expS, List.append_assoc]
    · have ha2 : a ≤ 2000000000 := by omega
      cases h9 : b[i] == 9
      · have hne : (b[i] != 9) = true := by unfold bne; rw [h9]; rfl
        have b1 := bleB (n := (acc ++ [b[i]]).length) (by rw [List.length_append, List.length_singleton]; show _ ≤ 140737488351232; omega)
        have e1 : stN st a b[i] = (bif b[i] == 10 then 0 else wideN a b[i]) := by unfold stN; rw [h9]; rfl
        have e2 : ex st a b[i] = [b[i]] := by unfold ex; rw [h9]; rfl
        rw [e1, e2]
        simp only [F38.s506, F38.go506, lt_dec hil, dec0, Bool.true_and, cond_true, Int.toNat_natCast, gD hil, hne, b1, F68_eq k a b[i] h9 ha2, Option.bind_some, w1]
      · have hne : (b[i] != 9) = false := by unfold bne; rw [h9]; rfl
        have ht := tabN_ok hs a
        have e1 : stN st a b[i] = tabN st a := by unfold stN; rw [h9]; rfl
        have e2 : ex st a b[i] = List.replicate (tabN st a - a) 32 := by unfold ex; rw [h9]; rfl
        have w2 := wsub (tabN st a) a (by omega) (by show _ ≤ 140737488351232; omega)
        have f70 := F70_eq k (tabN st a - a) (by omega) (by omega)
        have b1 := bleB (n := (acc ++ List.replicate (tabN st a - a) (32 : Int)).length) (by rw [List.length_append, List.length_replicate]; show _ ≤ 140737488351232; omega)
        rw [e1, e2]
        simp only [F38.s506, F38.go506, lt_dec hil, dec0, Bool.true_and, cond_true, Int.toNat_natCast, gD hil, hne, cond_false, F69_eq k st hs a ha2 hl hk, Option.bind_some, outN_tab, w2, f70, Sum.elim_inl, b1, w1]
theorem F38_good (k : Nat) (st b : List Int) (hs : stG st) (hv : vS st = true) (hb : b.length ≤ 1048576) (hl : st.length ≤ 1048576) (hk : st.length < k) (hk2 : 2000 < k) (hk3 : b.length < k) : F38.go k b st = some (.inr (.inl ((((), 0, ()), ()), (expS st 0 b, ()), ()))) := by
  have loop := F38_loop k st b hs hb hl hk hk2 b.length 0 0 [] k (by omega) (Nat.zero_le _) (Nat.zero_le _) hk3
  have e0 : ((0 : Nat) : Int) = 0 := rfl
  rw [e0, List.drop_zero, List.nil_append] at loop
  unfold F38.go F38.l_506
  by_cases h0 : st = []
  · subst h0
    have loop' : loopN (F38.s506 k) k ((0, 0, (), [8], b, (b.length : Int), ()), ([], ()), ()) = some (.inr (((), ()), (expS [] 0 b, ()), ())) := loop
    rw [F67_nil]
    simp only [Option.bind_some, Sum.elim_inl, bne_self_eq_false, cond_false, loop', Sum.elim_inr]
  · have e8 : own8 st = st := by unfold own8; cases st with | nil => exact absurd rfl h0 | cons a r => rfl
    rw [e8] at loop
    rw [F67_eq k st h0 hl hk, hv]
    simp only [cond_true, Option.bind_some, Sum.elim_inr, bne_self_eq_false, cond_false, loop]
def runF (st : List Int) : Nat → Nat → Nat → List Int
  | 0, a, to => List.replicate (to - a) 32
  | f + 1, a, to => match nx st a with
    | some x => bif decide (x ≤ to) then 9 :: runF st f x to else List.replicate (to - a) 32
    | none => List.replicate (to - a) 32
theorem runF_len {st : List Int} (hs : stG st) : ∀ f a to, (runF st f a to).length ≤ to - a
  | 0, a, to => by unfold runF; rw [List.length_replicate]; exact Nat.le_refl _
  | f + 1, a, to => by
    unfold runF
    cases h : nx st a with
    | none => simp only [List.length_replicate]; exact Nat.le_refl _
    | some x =>
      have hx := nx_ok hs h
      by_cases hxt : x ≤ to
      · have ih := runF_len hs f x to
        simp only [decide_eq_true hxt, cond_true, List.length_cons]; omega
      · simp only [decide_eq_false hxt, cond_false, List.length_replicate]; exact Nat.le_refl _
def runS (st : List Int) (a to : Nat) : List Int := runF st (to - a) a to
theorem F74_loop (k : Nat) (st : List Int) (hs : stG st) (to : Nat) (ht : to ≤ 2000000000) (hl : st.length ≤ 1048576) (hk : st.length < k) (hk2 : 2000000002 < k) :
    ∀ (f a : Nat) (acc : List Int) (fu : Nat), a ≤ to → to - a ≤ f → acc.length + (to - a) ≤ 2000000000 → f < fu →
      loopN (F74.s14 k) fu (((a : Int), (to : Int), (), own8 st, ()), (acc, ()), ()) = some (.inl (((), ()), (acc ++ runF st f a to, ()), ())) := by
  intro f
  have stop : ∀ (a : Nat) (acc : List Int), a ≤ to → acc.length + (to - a) ≤ 2000000000 → (nx st a = none ∨ ∃ x, nx st a = some x ∧ to < x) → F74.s14 k (((a : Int), (to : Int), (), own8 st, ()), (acc, ()), ()) = some (.inr (.inl (((), ()), (acc ++ List.replicate (to - a) 32, ()), ()))) := by
    intro a acc ha hacc hno
    have w2 := wsub to a ha (by show _ ≤ 140737488351232; omega)
    have f70 := F70_eq k (to - a) (by omega) (by omega)
    have b1 := bleB (n := (acc ++ List.replicate (to - a) (32 : Int)).length) (by rw [List.length_append, List.length_replicate]; show _ ≤ 140737488351232; omega)
    rcases hno with hno | ⟨x, hno, hx⟩
    · simp only [F74.s14, F74.go14, F69_eq k st hs a (by omega) hl hk, Option.bind_some, hno, outN, Bool.not_false, cond_true, w2, f70, Sum.elim_inl, b1]
    · have d1 : decide ((x : Int) > (to : Int)) = true := decide_eq_true (by omega)
      simp only [F74.s14, F74.go14, F69_eq k st hs a (by omega) hl hk, Option.bind_some, hno, outN, Bool.not_true, cond_false, d1, cond_true, w2, f70, Sum.elim_inl, b1]
  induction f with
  | zero =>
    intro a acc fu ha hf hacc hfu
    obtain ⟨fu, rfl⟩ : ∃ f', fu = f' + 1 := ⟨fu - 1, by omega⟩
    refine loopN_inr (stop a acc ha hacc ?_)
    cases h : nx st a with
    | none => exact .inl rfl
    | some x => have := nx_ok hs h; exact .inr ⟨x, rfl, by omega⟩
  | succ f ih =>
    intro a acc fu ha hf hacc hfu
    obtain ⟨fu, rfl⟩ : ∃ f', fu = f' + 1 := ⟨fu - 1, by omega⟩
    rw [runF]
    cases h : nx st a with
    | none => exact loopN_inr (stop a acc ha hacc (.inl h))
    | some x =>
      have hx := nx_ok hs h
      by_cases hxt : x ≤ to
      · have d1 : decide ((x : Int) > (to : Int)) = false := decide_eq_false (by omega)
        have b1 := bleB (n := (acc ++ [(9 : Int)]).length) (by rw [List.length_append, List.length_singleton]; show _ ≤ 140737488351232; omega)
        rw [loopN_inl (x' := (((x : Int), (to : Int), (), own8 st, ()), (acc ++ [9], ()), ()))]
        · rw [ih x (acc ++ [9]) fu hxt (by omega) (by rw [List.length_append, List.length_singleton]; omega) (by omega), List.append_assoc]
          simp only [decide_eq_true hxt, cond_true]; rfl
        · simp only [F74.s14, F74.go14, F69_eq k st hs a (by omega) hl hk, Option.bind_some, h, outN, Bool.not_true, cond_false, d1, b1, cond_true]
      · simp only [decide_eq_false hxt, cond_false]
        exact loopN_inr (stop a acc ha hacc (.inr ⟨x, h, by omega⟩))
theorem F74_eq (k : Nat) (st : List Int) (hs : stG st) (a to : Nat) (ha : a ≤ to) (ht : to ≤ 2000000000) (hl : st.length ≤ 1048576) (hk : st.length < k) (hk2 : 2000000002 < k) : F74.go k (own8 st) (a : Int) (to : Int) = some (.inl (((), ()), (runS st a to, ()), ())) := by
  have := F74_loop k st hs to ht hl hk hk2 (to - a) a [] k ha (Nat.le_refl _) (by simp; omega) (by omega)
  rw [List.nil_append] at this
  unfold F74.go F74.l_14 runS
  rw [this]; rfl
def spanB : List Int → Nat
  | [] => 0
  | c :: r => bif blB c then spanB r + 1 else 0
theorem spanB_le : ∀ l, spanB l ≤ l.length
  | [] => Nat.le_refl _
  | c :: r => by
    have := spanB_le r
    unfold spanB
    cases blB c <;> simp only [cond_true, cond_false, List.length_cons] <;> omega
def tb (st : List Int) (a : Nat) (c : Int) : Nat := bif c == 9 then tabN st a else a + 1
def colB (st : List Int) : Nat → List Int → Nat
  | a, [] => a
  | a, c :: r => colB st (tb st a c) r
theorem tb_ok {st : List Int} (hs : stG st) (a : Nat) (c : Int) : a < tb st a c ∧ tb st a c ≤ a + 1000 := by
  unfold tb
  cases c == 9
  · exact ⟨Nat.lt_succ_self _, by show a + 1 ≤ _; omega⟩
  · exact tabN_ok hs a
theorem colB_ok {st : List Int} (hs : stG st) : ∀ (l : List Int) (a : Nat), a + l.length ≤ colB st a l ∧ colB st a l ≤ a + 1000 * l.length
  | [], a => ⟨Nat.le_refl _, Nat.le_refl _⟩
  | c :: r, a => by
    have h1 := tb_ok hs a c
    have h2 := colB_ok hs r (tb st a c)
    rw [colB, List.length_cons]
    omega
def piece (st : List Int) (all first : Bool) (a : Nat) (l : List Int) : List Int := bif !first && (!all || (Nat.beq l.length 1 && l.getD 0 0 == 32)) then l else runS st a (colB st a l)
theorem piece_len {st : List Int} (hs : stG st) (all first : Bool) (a : Nat) (l : List Int) : (piece st all first a l).length ≤ 1000 * l.length := by
  unfold piece
  cases !first && (!all || (Nat.beq l.length 1 && l.getD 0 0 == 32))
  · have h1 := runF_len hs (colB st a l - a) a (colB st a l)
    have h2 := colB_ok hs l a
    show (runS st a (colB st a l)).length ≤ _
    unfold runS; omega
  · show l.length ≤ _; omega
def U (st : List Int) (all : Bool) : Nat → Bool → Nat → List Int → List Int
  | 0, _, _, _ => []
  | _ + 1, _, _, [] => []
  | n + 1, first, a, c :: r => bif c == 10 then 10 :: U st all n true 0 r else bif blB c then
      piece st all first a ((c :: r).take (spanB (c :: r))) ++ U st all n false (colB st a ((c :: r).take (spanB (c :: r)))) ((c :: r).drop (spanB (c :: r))) else c :: U st all n false (wideN a c) r
theorem span_pos {c : Int} {r : List Int} (h : blB c = true) : spanB (c :: r) = spanB r + 1 := by
  show (bif blB c then spanB r + 1 else 0) = _
  rw [h]; rfl
theorem U_fuel (st : List Int) (all : Bool) : ∀ (n m : Nat) (first : Bool) (a : Nat) (l : List Int), l.length ≤ n → l.length ≤ m → U st all n first a l = U st all m first a l
  | 0, 0, first, a, l, _, _ => rfl
  | 0, m + 1, first, a, l, h, _ => by
    have : l = [] := List.length_eq_zero_iff.1 (by omega)
    subst this; rfl
  | n + 1, 0, first, a, l, _, h => by
    have : l = [] := List.length_eq_zero_iff.1 (by omega)
    subst this; rfl
  | n + 1, m + 1, first, a, [], _, _ => rfl
  | n + 1, m + 1, first, a, c :: r, h1, h2 => by
    rw [List.length_cons] at h1 h2
    rw [U, U, U_fuel st all n m true 0 r (by omega) (by omega), U_fuel st all n m false (wideN a c) r (by omega) (by omega)]
    cases hb : blB c
    · rfl
    · have hp := span_pos (r := r) hb
      have hl : ((c :: r).drop (spanB (c :: r))).length ≤ r.length := by rw [List.length_drop, hp, List.length_cons]; omega
      rw [U_fuel st all n m false _ ((c :: r).drop (spanB (c :: r))) (by omega) (by omega)]
def V (st : List Int) (all first : Bool) (a : Nat) (l : List Int) : List Int := U st all l.length first a l
theorem V_nil (st : List Int) (all first : Bool) (a : Nat) : V st all first a [] = [] := rfl
theorem V_cons (st : List Int) (all first : Bool) (a : Nat) (c : Int) (r : List Int) : V st all first a (c :: r) = bif c == 10 then 10 :: V st all true 0 r else bif blB c then
      piece st all first a ((c :: r).take (spanB (c :: r))) ++ V st all false (colB st a ((c :: r).take (spanB (c :: r)))) ((c :: r).drop (spanB (c :: r))) else c :: V st all false (wideN a c) r := by
  show U st all (r.length + 1) first a (c :: r) = _
  rw [U]
  unfold V
  cases hb : blB c
  · rfl
  · have hp := span_pos (r := r) hb
    have hl : ((c :: r).drop (spanB (c :: r))).length ≤ r.length := by rw [List.length_drop, hp, List.length_cons]; omega
    rw [U_fuel st all r.length ((c :: r).drop (spanB (c :: r))).length false _ ((c :: r).drop (spanB (c :: r))) hl (Nat.le_refl _)]
theorem bl10 {c : Int} (h : blB c = true) : (c == 10) = false := by
  unfold blB at h
  rw [beq_eq_false_iff_ne]
  intro e; subst e; exact absurd h (by decide)
theorem V_blank {st : List Int} {all first : Bool} {a : Nat} {c : Int} {r : List Int} (h : blB c = true) : V st all first a (c :: r) = piece st all first a ((c :: r).take (spanB (c :: r))) ++ V st all false (colB st a ((c :: r).take (spanB (c :: r)))) ((c :: r).drop (spanB (c :: r))) := by
  rw [V_cons, h, bl10 h]; rfl
theorem tb_st {st : List Int} {a : Nat} {c : Int} (h : blB c = true) : tb st a c = stN st a c := by
  unfold tb stN
  rw [bl10 h]
  cases h9 : c == 9
  · have : c = 32 := by
      unfold blB at h
      rw [h9, Bool.or_false] at h
      simpa using h
    subst this; rfl
  · rfl
/-- byte by byte, where a byte is no blank, or blanks stay -/
theorem V_step {st : List Int} {all first : Bool} {a : Nat} {c : Int} {r : List Int} (h : blB c = false ∨ (first = false ∧ all = false)) : V st all first a (c :: r) = c :: V st all (c == 10) (stN st a c) r := by
  cases hb : blB c
  · rw [V_cons, hb]
    have h9 : (c == 9) = false := by
      unfold blB at hb
      exact (Bool.or_eq_false_iff.1 hb).2
    unfold stN
    rw [h9]
    cases h10 : c == 10
    · rfl
    · have : c = 10 := by simpa using h10
      subst this; rfl
  · rcases h with h | ⟨h1, h2⟩
    · rw [hb] at h; exact absurd h (by decide)
    · subst h1; subst h2
      have pc : ∀ a l, piece st false false a l = l := fun a l => by unfold piece; rfl
      rw [V_blank hb, pc, bl10 hb, span_pos hb, List.take_succ_cons, List.drop_succ_cons, colB, tb_st hb, List.cons_append]
      congr 1
      cases r with
      | nil => rfl
      | cons d r' =>
        cases hd : blB d
        · have : spanB (d :: r') = 0 := by unfold spanB; rw [hd]; rfl
          rw [this]; rfl
        · rw [V_blank hd, pc]
theorem V_len {st : List Int} (hs : stG st) (all : Bool) : ∀ (n : Nat) (first : Bool) (a : Nat) (l : List Int), l.length ≤ n → (V st all first a l).length ≤ 1000 * l.length
  | n, first, a, [], _ => Nat.zero_le _
  | 0, first, a, c :: r, h => by rw [List.length_cons] at h; omega
  | n + 1, first, a, c :: r, h => by
    rw [List.length_cons] at h
    cases hb : blB c
    · rw [V_step (.inl hb), List.length_cons, List.length_cons]
      have := V_len hs all n (c == 10) (stN st a c) r (by omega)
      omega
    · have hle := spanB_le (c :: r)
      have hp := span_pos (r := r) hb
      have h1 := piece_len hs all first a ((c :: r).take (spanB (c :: r)))
      have h2 := V_len hs all n false (colB st a ((c :: r).take (spanB (c :: r)))) ((c :: r).drop (spanB (c :: r))) (by rw [List.length_drop, hp, List.length_cons]; omega)
      rw [V_blank hb, List.length_append]
      rw [List.length_take] at h1
      rw [List.length_drop] at h2
      omega
theorem F40_in (k : Nat) (st b : List Int) (hs : stG st) (hb : b.length ≤ 1048576) (hl : st.length ≤ 1048576) (hk : st.length < k) (q4 q5 q6 q7 q8 q10 : Bool) (q9 q11 : Int) (acc : List Int) :
    ∀ (m n to fu : Nat), n + m = b.length → to ≤ 1000 * n → m < fu →
      loopN (F40.s129628 k) fu (((n : Int), (to : Int), own8 st, b, q4, q5, q6, q7, q8, (), q9, q10, q11, ()), (acc, ()), ()) =
        some ((b, own8 st, q4, q5, q6, q7, q8, ((n + spanB (b.drop n) : Nat) : Int), ((colB st to ((b.drop n).take (spanB (b.drop n))) : Nat) : Int), (), q9, q10, q11, ()), (acc, ()), ()) := by
  intro m
  induction m with
  | zero =>
    intro n to fu hn ht hf
    obtain ⟨fu, rfl⟩ : ∃ f', fu = f' + 1 := ⟨fu - 1, by omega⟩
    have hie : n = b.length := by omega
    subst hie
    refine loopN_inr ?_
    simp only [F40.s129628, F40.go129628, lt_dec', cond_false, List.drop_length]
    rfl
  | succ m ih =>
    intro n to fu hn ht hf
    obtain ⟨fu, rfl⟩ : ∃ f', fu = f' + 1 := ⟨fu - 1, by omega⟩
    have hil : n < b.length := by omega
    have w1 := wadd1 n (by show _ < 140737488351232; omega)
    have hd := drop_int hil
    cases hbl : blB b[n]
    · refine loopN_inr ?_
      have hsp : spanB (b.drop n) = 0 := by rw [hd]; show (bif blB b[n] then _ else 0) = 0; rw [hbl]; rfl
      rw [hsp]
      simp only [F40.s129628, F40.go129628, lt_dec hil, dec0, Bool.true_and, cond_true, Int.toNat_natCast, gD hil, F73_eq, Option.bind_some, hbl, cond_false]
      rfl
    · have hsp : spanB (b.drop n) = spanB (b.drop (n + 1)) + 1 := by rw [hd]; exact span_pos hbl
      have htk : (b.drop n).take (spanB (b.drop n)) = b[n] :: (b.drop (n + 1)).take (spanB (b.drop (n + 1))) := by rw [hsp, hd, List.take_succ_cons]
      have ht1 := tb_ok hs to b[n]
      rw [loopN_inl (x' := ((((n + 1 : Nat) : Int), ((tb st to b[n] : Nat) : Int), own8 st, b, q4, q5, q6, q7, q8, (), q9, q10, q11, ()), (acc, ()), ()))]
      · rw [ih (n + 1) (tb st to b[n]) fu (by omega) (by omega) (by omega), htk, hsp]
        have e : n + 1 + spanB (b.drop (n + 1)) = n + (spanB (b.drop (n + 1)) + 1) := by omega
        rw [e]; rfl
      · cases h9 : b[n] == 9
        · have e1 : tb st to b[n] = to + 1 := by unfold tb; rw [h9]; rfl
          rw [e1]
          simp only [F40.s129628, F40.go129628, lt_dec hil, dec0, Bool.true_and, cond_true, Int.toNat_natCast, gD hil, F73_eq, Option.bind_some, hbl, h9, cond_false, w1, wadd1 to (by show _ < 140737488351232; omega)]
        · have e1 : tb st to b[n] = tabN st to := by unfold tb; rw [h9]; rfl
          rw [e1]
          simp only [F40.s129628, F40.go129628, lt_dec hil, dec0, Bool.true_and, cond_true, Int.toNat_natCast, gD hil, F73_eq, Option.bind_some, hbl, h9, w1, F69_eq k st hs to (by omega) hl hk, outN_tab]
theorem F40_run (k : Nat) (st b : List Int) (hs : stG st) (hb : b.length ≤ 1048576) (hl : st.length ≤ 1048576) (hk : st.length < k) (hk2 : 2000000002 < k) (all start : Bool) (q2 q3 q4 q5 q6 : Bool) (i a : Nat) (acc : List Int) (hi : i < b.length) (ha : a ≤ 1000 * i) (hacc : acc.length ≤ 1000 * i) (hbl : blB b[i] = true) (hsa : start = true ∨ all = true) :
    F40.go8101 k (own8 st) b q2 q3 q4 q5 q6 (a : Int) start (i : Int) acc = some (.inl ((((i + spanB (b.drop i) : Nat) : Int), b, ((colB st a ((b.drop i).take (spanB (b.drop i))) : Nat) : Int), own8 st, (), false, q2, q3, q4, q5, q6, ()), (acc ++ piece st all start a ((b.drop i).take (spanB (b.drop i))), ()), ())) := by
  have hin := F40_in k st b hs hb hl hk q2 q3 q4 q5 q6 start (a : Int) (i : Int) acc (b.length - i) i a k (by omega) ha (by omega)
  have hd := drop_int hi
  have hsp : spanB (b.drop i) = spanB (b.drop (i + 1)) + 1 := by rw [hd]; exact span_pos hbl
  have hle := spanB_le (b.drop i)
  rw [List.length_drop] at hle
  have hlt : ((b.drop i).take (spanB (b.drop i))).length = spanB (b.drop i) := by rw [List.length_take, List.length_drop]; omega
  have hcol := colB_ok hs ((b.drop i).take (spanB (b.drop i))) a
  rw [hlt] at hcol
  have hpl := piece_len hs all start a ((b.drop i).take (spanB (b.drop i)))
  rw [hlt] at hpl
  have w1 := wadd1 i (by show _ < 140737488351232; omega)
  have h0 : ((b.drop i).take (spanB (b.drop i))).getD 0 0 = b[i] := by rw [hsp, hd, List.take_succ_cons]; rfl
  -- the run of tabs
  have f74 := F74_eq k st hs a (colB st a ((b.drop i).take (spanB (b.drop i)))) (by omega) (by omega) hl hk hk2
  have hrl := runF_len hs (colB st a ((b.drop i).take (spanB (b.drop i))) - a) a (colB st a ((b.drop i).take (spanB (b.drop i))))
  have b1 := bleB (n := (acc ++ runS st a (colB st a ((b.drop i).take (spanB (b.drop i))))).length) (by rw [List.length_append]; unfold runS; show _ ≤ 140737488351232; omega)
  have b2 := bleB (n := (acc ++ [(32 : Int)]).length) (by rw [List.length_append, List.length_singleton]; show _ ≤ 140737488351232; omega)
  unfold F40.go8101 F40.l_129628
  rw [hin, Option.bind_some]
  by_cases h1 : spanB (b.drop i) = 1
  · have e1 : (((i + spanB (b.drop i) : Nat) : Int) == IntKind.i64.wrap ((i : Int) + 1)) = true := by rw [w1, h1]; exact beq_self_eq_true _
    cases h32 : b[i] == 32
    · have hp : piece st all start a ((b.drop i).take (spanB (b.drop i))) = runS st a (colB st a ((b.drop i).take (spanB (b.drop i)))) := by
        unfold piece
        rw [h0, h32, Bool.and_false]
        cases start
        · rcases hsa with h | h
          · exact absurd h (by decide)
          · rw [h]; rfl
        · rfl
      rw [hp]
      simp only [e1, cond_true, lt_dec hi, dec0, Bool.true_and, Int.toNat_natCast, gD hi, h32, cond_false, f74, Option.bind_some, Sum.elim_inl, b1]
    · cases start
      · have hp : piece st all false a ((b.drop i).take (spanB (b.drop i))) = [32] := by
          unfold piece
          rw [h0, h32, hlt, h1]
          have e : b[i] = 32 := by simpa using h32
          have : (b.drop i).take 1 = [32] := by rw [hd, List.take_succ_cons, e]; rfl
          rw [this]
          cases all <;> rfl
        rw [hp]
        simp only [e1, cond_true, lt_dec hi, dec0, Bool.true_and, Int.toNat_natCast, gD hi, h32, Bool.not_false, b2]
      · have hp : piece st all true a ((b.drop i).take (spanB (b.drop i))) = runS st a (colB st a ((b.drop i).take (spanB (b.drop i)))) := rfl
        rw [hp]
        simp only [e1, cond_true, lt_dec hi, dec0, Bool.true_and, Int.toNat_natCast, gD hi, h32, Bool.not_true, cond_false, f74, Option.bind_some, Sum.elim_inl, b1]
  · have e1 : (((i + spanB (b.drop i) : Nat) : Int) == IntKind.i64.wrap ((i : Int) + 1)) = false := by rw [w1, beq_eq_false_iff_ne]; omega
    have hp : piece st all start a ((b.drop i).take (spanB (b.drop i))) = runS st a (colB st a ((b.drop i).take (spanB (b.drop i)))) := by
      unfold piece
      have hne : Nat.beq (spanB (b.drop i)) 1 = false := by
        cases h : Nat.beq (spanB (b.drop i)) 1
        · rfl
        · exact absurd (Nat.eq_of_beq_eq_true h) h1
      rw [hlt, hne, Bool.false_and]
      cases start
      · rcases hsa with h | h
        · exact absurd h (by decide)
        · rw [h]; rfl
      · rfl
    rw [hp]
    simp only [e1, cond_false, f74, Option.bind_some, Sum.elim_inl, b1, cond_true]
theorem F40_loop (k : Nat) (st b : List Int) (hs : stG st) (hb : b.length ≤ 1048576) (hl : st.length ≤ 1048576) (hk : st.length < k) (hk2 : 2000000002 < k) (all : Bool) :
    ∀ (m i a : Nat) (start : Bool) (acc : List Int) (fu : Nat), b.length - i ≤ m → i ≤ b.length → a ≤ 1000 * i → acc.length ≤ 1000 * i → m < fu →
      loopN (F40.s506 k) fu (((i : Int), b, (a : Int), own8 st, (), start, all, ()), (acc, ()), ()) = some (.inr (((), ()), (acc ++ V st all start a (b.drop i), ()), ())) := by
  intro m
  have done : ∀ (a : Nat) (start : Bool) (acc : List Int), F40.s506 k (((b.length : Int), b, (a : Int), own8 st, (), start, all, ()), (acc, ()), ()) = some (.inr (.inr (((), ()), (acc ++ V st all start a (b.drop b.length), ()), ()))) := by
    intro a start acc
    simp only [F40.s506, F40.go506, lt_dec', cond_false, List.drop_length, V_nil, List.append_nil]
  induction m with
  | zero =>
    intro i a start acc fu hm hi ha hacc hf
    obtain ⟨fu, rfl⟩ : ∃ f', fu = f' + 1 := ⟨fu - 1, by omega⟩
    have hie : i = b.length := by omega
    subst hie
    exact loopN_inr (done a start acc)
  | succ m ih =>
    intro i a start acc fu hm hi ha hacc hf
    obtain ⟨fu, rfl⟩ : ∃ f', fu = f' + 1 := ⟨fu - 1, by omega⟩
    by_cases hie : i = b.length
    · subst hie
      exact loopN_inr (done a start acc)
    · have hil : i < b.length := by omega
      have w1 := wadd1 i (by show _ < 140737488351232; omega)
      have hd := drop_int hil
      have hst := stN_le hs a b[i]
      have b1 := bleB (n := (acc ++ [b[i]]).length) (by rw [List.length_append, List.length_singleton]; show _ ≤ 140737488351232; omega)
      have ha2 : a ≤ 2000000000 := by omega
      have one : (blB b[i] = false ∨ (start = false ∧ all = false)) → F40.s506 k (((i : Int), b, (a : Int), own8 st, (), start, all, ()), (acc, ()), ()) = some (.inl ((((i + 1 : Nat) : Int), b, ((stN st a b[i] : Nat) : Int), own8 st, (), b[i] == 10, all, ()), (acc ++ [b[i]], ()), ())) →
          loopN (F40.s506 k) (fu + 1) (((i : Int), b, (a : Int), own8 st, (), start, all, ()), (acc, ()), ()) = some (.inr (((), ()), (acc ++ V st all start a (b.drop i), ()), ())) := by
        intro hc hgo
        rw [loopN_inl hgo, ih (i + 1) (stN st a b[i]) (b[i] == 10) (acc ++ [b[i]]) fu (by omega) (by omega) (by omega) (by rw [List.length_append, List.length_singleton]; omega) (by omega), hd, V_step hc, List.append_assoc]
        rfl
      have hch : ∀ (b9 : Bool), (b[i] == 9) = b9 → (b9 = true → ((tabN st a : Nat) : Int) = ((stN st a b[i] : Nat) : Int)) ∧ (b9 = false → (((bif b[i] == 10 then 0 else wideN a b[i]) : Nat) : Int) = ((stN st a b[i] : Nat) : Int)) := by
        intro b9 h9
        unfold stN
        subst h9
        exact ⟨fun h => by rw [h]; rfl, fun h => by rw [h]; rfl⟩
      cases hbl : blB b[i]
      · refine one (.inl hbl) ?_
        cases h9 : b[i] == 9
        · have e := (hch false h9).2 rfl
          simp only [F40.s506, F40.go506, lt_dec hil, dec0, Bool.true_and, cond_true, Int.toNat_natCast, gD hil, F73_eq, Option.bind_some, hbl, Bool.not_false, b1, h9, cond_false, F68_eq k a b[i] h9 ha2, w1, e]
        · unfold blB at hbl; rw [h9, Bool.or_true] at hbl; exact absurd hbl (by decide)
      · cases hstart : start
        · cases hall : all
          · subst hstart; subst hall
            refine one (.inr ⟨rfl, rfl⟩) ?_
            cases h9 : b[i] == 9
            · have e := (hch false h9).2 rfl
              simp only [F40.s506, F40.go506, lt_dec hil, dec0, Bool.true_and, cond_true, Int.toNat_natCast, gD hil, F73_eq, Option.bind_some, hbl, Bool.not_true, Bool.not_false, b1, h9, cond_false, F68_eq k a b[i] h9 ha2, w1, e]
            · have e := (hch true h9).1 rfl
              simp only [F40.s506, F40.go506, lt_dec hil, dec0, Bool.true_and, cond_true, Int.toNat_natCast, gD hil, F73_eq, Option.bind_some, hbl, Bool.not_true, Bool.not_false, b1, h9, cond_false, F69_eq k st hs a ha2 hl hk, outN_tab, w1, e]
          · subst hstart; subst hall
            have hsp : spanB (b.drop i) = spanB (b.drop (i + 1)) + 1 := by rw [hd]; exact span_pos hbl
            have hle := spanB_le (b.drop i)
            rw [List.length_drop] at hle
            have hlt : ((b.drop i).take (spanB (b.drop i))).length = spanB (b.drop i) := by rw [List.length_take, List.length_drop]; omega
            have hcol := colB_ok hs ((b.drop i).take (spanB (b.drop i))) a
            have hpl := piece_len hs true false a ((b.drop i).take (spanB (b.drop i)))
            rw [hlt] at hcol hpl
            have hrun := F40_run k st b hs hb hl hk hk2 true false (!true) true true (!false) false i a acc hil ha hacc hbl (.inr rfl)
            rw [loopN_inl (x' := ((((i + spanB (b.drop i) : Nat) : Int), b, ((colB st a ((b.drop i).take (spanB (b.drop i))) : Nat) : Int), own8 st, (), false, true, ()), (acc ++ piece st true false a ((b.drop i).take (spanB (b.drop i))), ()), ()))]
            · rw [ih (i + spanB (b.drop i)) _ false _ fu (by omega) (by omega) (by omega) (by rw [List.length_append]; omega) (by omega)]
              have e : V st true false a (b.drop i) = piece st true false a ((b.drop i).take (spanB (b.drop i))) ++ V st true false (colB st a ((b.drop i).take (spanB (b.drop i)))) (b.drop (i + spanB (b.drop i))) := by
                have := V_blank (st := st) (all := true) (first := false) (a := a) (c := b[i]) (r := b.drop (i + 1)) hbl
                rw [← hd] at this
                rw [this, List.drop_drop]
              rw [e, List.append_assoc]
            · simp only [F40.s506, F40.go506, lt_dec hil, dec0, Bool.true_and, cond_true, Int.toNat_natCast, gD hil, F73_eq, Option.bind_some, hbl, Bool.not_true, Bool.not_false, cond_false]
              simp only [Bool.not_true, Bool.not_false] at hrun
              rw [hrun]; rfl
        · subst hstart
          have hsp : spanB (b.drop i) = spanB (b.drop (i + 1)) + 1 := by rw [hd]; exact span_pos hbl
          have hle := spanB_le (b.drop i)
          rw [List.length_drop] at hle
          have hlt : ((b.drop i).take (spanB (b.drop i))).length = spanB (b.drop i) := by rw [List.length_take, List.length_drop]; omega
          have hcol := colB_ok hs ((b.drop i).take (spanB (b.drop i))) a
          have hpl := piece_len hs all true a ((b.drop i).take (spanB (b.drop i)))
          rw [hlt] at hcol hpl
          have hrun := F40_run k st b hs hb hl hk hk2 all true false false all (!true) true i a acc hil ha hacc hbl (.inl rfl)
          rw [loopN_inl (x' := ((((i + spanB (b.drop i) : Nat) : Int), b, ((colB st a ((b.drop i).take (spanB (b.drop i))) : Nat) : Int), own8 st, (), false, all, ()), (acc ++ piece st all true a ((b.drop i).take (spanB (b.drop i))), ()), ()))]
          · rw [ih (i + spanB (b.drop i)) _ false _ fu (by omega) (by omega) (by omega) (by rw [List.length_append]; omega) (by omega)]
            have e : V st all true a (b.drop i) = piece st all true a ((b.drop i).take (spanB (b.drop i))) ++ V st all false (colB st a ((b.drop i).take (spanB (b.drop i)))) (b.drop (i + spanB (b.drop i))) := by
              have := V_blank (st := st) (all := all) (first := true) (a := a) (c := b[i]) (r := b.drop (i + 1)) hbl
              rw [← hd] at this
              rw [this, List.drop_drop]
            rw [e, List.append_assoc]
          · simp only [F40.s506, F40.go506, lt_dec hil, dec0, Bool.true_and, cond_true, Int.toNat_natCast, gD hil, F73_eq, Option.bind_some, hbl, Bool.not_true, cond_false]
            simp only [Bool.not_true] at hrun
            rw [hrun]; rfl
theorem F40_good (k : Nat) (st b : List Int) (hs : stG st) (hv : vS st = true) (hb : b.length ≤ 1048576) (hl : st.length ≤ 1048576) (hk : st.length < k) (hk2 : 2000000002 < k) (all : Bool) : F40.go k b st all = some (.inr (.inl ((((), 0, ()), ()), (V st all true 0 b, ()), ()))) := by
  have loop := F40_loop k st b hs hb hl hk hk2 all b.length 0 0 true [] k (by omega) (Nat.zero_le _) (Nat.zero_le _) (Nat.zero_le _) (by omega)
  have e0 : ((0 : Nat) : Int) = 0 := rfl
  rw [e0, List.drop_zero, List.nil_append] at loop
  unfold F40.go F40.l_506
  by_cases h0 : st = []
  · subst h0
    have loop' : loopN (F40.s506 k) k ((0, b, 0, [8], (), true, all, ()), ([], ()), ()) = some (.inr (((), ()), (V [] all true 0 b, ()), ())) := loop
    rw [F67_nil]
    simp only [Option.bind_some, Sum.elim_inl, bne_self_eq_false, cond_false, loop', Sum.elim_inr]
  · have e8 : own8 st = st := by unfold own8; cases st with | nil => exact absurd rfl h0 | cons a r => rfl
    rw [e8] at loop
    rw [F67_eq k st h0 hl hk, hv]
    simp only [cond_true, Option.bind_some, Sum.elim_inr, bne_self_eq_false, cond_false, loop]
end Go.Proofs.Try.S

namespace Go.Proofs.Try.S
open Go Go.Ev
/-! ### lines make the bytes again -/
def nlS (ls : List (List Int)) : List Int := (ls.map (· ++ [10])).flatten
theorem nl_lines : ∀ (b line : List Int), nlS (linesF b line).1 = line ++ b ++ (bif (linesF b line).2 then [] else [10])
  | [], line => by
    unfold linesF
    cases line with
    | nil => rfl
    | cons c r => simp [nlS]
  | c :: r, line => by
    unfold linesF
    cases h : c == 10
    · have ih := nl_lines r (line ++ [c])
      rw [cond_false, ih, List.append_assoc line, List.singleton_append]
    · have hc : c = 10 := by simpa using h
      subst hc
      have ih := nl_lines r []
      rw [cond_true]
      show (line ++ [10]) ++ nlS (linesF r []).1 = _
      rw [ih, List.nil_append, List.append_assoc, List.append_assoc, List.singleton_append, List.cons_append]
theorem ended_eq : ∀ (b line : List Int), (linesF b line).2 = (bif b.isEmpty then line.isEmpty else b.getD (b.length - 1) 0 == 10)
  | [], line => by unfold linesF; cases line <;> rfl
  | [c], line => by
    unfold linesF
    show (bif c == 10 then _ else _ : List (List Int) × Bool).2 = (c == 10)
    cases h : c == 10
    · rw [cond_false]; unfold linesF; cases line <;> rfl
    · rfl
  | c :: d :: r, line => by
    have e : (c :: d :: r).getD ((c :: d :: r).length - 1) 0 = (d :: r).getD ((d :: r).length - 1) 0 := rfl
    have h1 := ended_eq (d :: r) []
    have h2 := ended_eq (d :: r) (line ++ [c])
    rw [linesF]
    cases h : c == 10
    · rw [cond_false, h2, e]; rfl
    · rw [cond_true]
      show (linesF (d :: r) []).2 = _
      rw [h1, e]; rfl
/-! ### backwards -/
def rv : List Int → List Int → List Int
  | [], line => line.reverse
  | c :: r, line => bif c == 10 then line.reverse ++ 10 :: rv r [] else rv r (line ++ [c])
theorem rv_flat (r : List Int) : ∀ (l line : List Int), flat l → rv (l ++ r) line = rv r (line ++ l)
  | [], line, _ => by rw [List.nil_append, List.append_nil]
  | c :: l, line, h => by
    rw [List.cons_append, rv, h c (List.mem_cons_self ..), cond_false, rv_flat r l _ (fun x hx => h x (List.mem_cons_of_mem _ hx)), List.append_assoc]; rfl
theorem flat_rev {l : List Int} (h : flat l) : flat l.reverse := fun x hx => h x (List.mem_reverse.1 hx)
theorem flat_snoc {l : List Int} {c : Int} (h : flat l) (hc : (c == 10) = false) : flat (l ++ [c]) := fun x hx => by
  rw [List.mem_append, List.mem_singleton] at hx
  rcases hx with hx | hx
  · exact h x hx
  · subst hx; exact hc
theorem flat_nil : flat [] := fun x hx => absurd hx (List.not_mem_nil)
theorem rv_rv : ∀ (b line : List Int), flat line → rv (rv b line) [] = line ++ b
  | [], line, h => by
    rw [rv]
    have := rv_flat [] line.reverse [] (flat_rev h)
    rw [List.append_nil, List.nil_append] at this
    rw [this, rv, List.reverse_reverse, List.append_nil]
  | c :: r, line, h => by
    rw [rv]
    cases h10 : c == 10
    · rw [cond_false, rv_rv r (line ++ [c]) (flat_snoc h h10), List.append_assoc]; rfl
    · have hc : c = 10 := by simpa using h10
      subst hc
      rw [cond_true, rv_flat _ line.reverse [] (flat_rev h), List.nil_append, rv]
      show line.reverse.reverse ++ 10 :: rv (rv r []) [] = _
      rw [List.reverse_reverse, rv_rv r [] flat_nil]; rfl
/-- a piece backwards -/
def revP (x : List Int) : List Int := (bareS x).reverse ++ x.drop (bareS x).length
theorem rv_pieces : ∀ (b line : List Int), flat line → ((piecesF b line).map revP).flatten = rv b line
  | [], line, h => by
    unfold piecesF
    cases line with
    | nil => rfl
    | cons c r =>
      show revP (c :: r) ++ [] = _
      unfold revP
      rw [bareS_flat h, List.drop_length, List.append_nil, List.append_nil]; rfl
  | c :: r, line, h => by
    rw [piecesF_cons, rv]
    cases h10 : c == 10
    · rw [cond_false, cond_false, rv_pieces r (line ++ [c]) (flat_snoc h h10)]
    · have hc : c = 10 := by simpa using h10
      subst hc
      rw [cond_true, cond_true, List.map_cons, List.flatten_cons, rv_pieces r [] flat_nil]
      unfold revP
      rw [bareS_lf, List.drop_left, List.append_assoc]; rfl
theorem revP_len (x : List Int) : (revP x).length = x.length := by
  unfold revP
  have : (bareS x).length ≤ x.length := by
    unfold bareS
    split
    · rw [List.length_take]; omega
    · exact Nat.le_refl _
  rw [List.length_append, List.length_reverse, List.length_drop]; omega
theorem rv_isB : ∀ (b line : List Int), isB b → isB line → isB (rv b line)
  | [], line, _, h => fun x hx => h x (List.mem_reverse.1 hx)
  | c :: r, line, hb, h => by
    rw [rv]
    have hr : isB r := fun x hx => hb x (List.mem_cons_of_mem _ hx)
    have hc := hb c (List.mem_cons_self ..)
    cases h10 : c == 10
    · rw [cond_false]
      refine rv_isB r _ hr (fun x hx => ?_)
      rw [List.mem_append, List.mem_singleton] at hx
      rcases hx with hx | hx
      · exact h x hx
      · subst hx; exact hc
    · rw [cond_true]
      intro x hx
      rw [List.mem_append, List.mem_cons] at hx
      rcases hx with hx | hx | hx
      · exact h x (List.mem_reverse.1 hx)
      · subst hx; omega
      · exact rv_isB r [] hr (fun x hx => absurd hx (List.not_mem_nil)) x hx
theorem rv_len : ∀ (b line : List Int), (rv b line).length = b.length + line.length
  | [], line => by rw [rv, List.length_reverse, List.length_nil, Nat.zero_add]
  | c :: r, line => by
    rw [rv]
    cases c == 10
    · rw [cond_false, rv_len r, List.length_append, List.length_cons]; simp; omega
    · rw [cond_true, List.length_append, List.length_cons, rv_len r []]; simp; omega
/-! ### the last line first -/
def tacS (b : List Int) : List Int := (piecesF b []).reverse.flatten
def lf (p : List Int) : Prop := ∃ l, flat l ∧ p = l ++ [10]
theorem ended_lf : ∀ (b line : List Int), flat line → (linesF b line).2 = true → ∀ p ∈ piecesF b line, lf p
  | [], line, h, he, p, hp => by
    unfold linesF at he
    cases line with
    | nil => cases hp
    | cons c r => cases he
  | c :: r, line, h, he, p, hp => by
    rw [linesF] at he
    rw [piecesF_cons] at hp
    cases h10 : c == 10 <;> rw [h10] at he hp
    · exact ended_lf r _ (flat_snoc h h10) he p hp
    · have hc : c = 10 := by simpa using h10
      subst hc
      rw [cond_true] at hp
      cases hp with
      | head => exact ⟨line, h, rfl⟩
      | tail _ hp => exact ended_lf r [] flat_nil he p hp
theorem pieces_app (r : List Int) : ∀ (l line : List Int), flat l → piecesF (l ++ 10 :: r) line = (line ++ l ++ [10]) :: piecesF r []
  | [], line, _ => by rw [List.nil_append, piecesF_cons, List.append_nil]; rfl
  | c :: l, line, h => by
    rw [List.cons_append, piecesF_cons, h c (List.mem_cons_self ..), cond_false, pieces_app r l _ (fun x hx => h x (List.mem_cons_of_mem _ hx))]
    simp
theorem pieces_flatten : ∀ Q : List (List Int), (∀ q ∈ Q, lf q) → piecesF Q.flatten [] = Q
  | [], _ => rfl
  | q :: Q, h => by
    obtain ⟨l, hl, rfl⟩ := h q (List.mem_cons_self ..)
    rw [List.flatten_cons, List.append_assoc, List.singleton_append, pieces_app Q.flatten l [] hl, pieces_flatten Q (fun x hx => h x (List.mem_cons_of_mem _ hx))]; rfl
theorem tac_tac (b : List Int) (he : (linesF b []).2 = true) : tacS (tacS b) = b := by
  have h := ended_lf b [] flat_nil he
  have h2 : piecesF (tacS b) [] = (piecesF b []).reverse := pieces_flatten _ (fun q hq => h q (List.mem_reverse.1 hq))
  show (piecesF (tacS b) []).reverse.flatten = b
  rw [h2, List.reverse_reverse, piecesF_flat, List.nil_append]
theorem flatten_rev_len (P : List (List Int)) : P.reverse.flatten.length = P.flatten.length := by
  induction P with
  | nil => rfl
  | cons p P ih => rw [List.reverse_cons, List.flatten_append, List.length_append, ih, List.flatten_cons, List.length_append]; simp; omega
theorem tac_len (b : List Int) : (tacS b).length = b.length := by
  unfold tacS
  rw [flatten_rev_len, piecesF_flat]; rfl
theorem tac_isB {b : List Int} (h : isB b) : isB (tacS b) := by
  intro x hx
  unfold tacS at hx
  rw [List.mem_flatten] at hx
  obtain ⟨p, hp, hx⟩ := hx
  exact pieces_isB h p (List.mem_reverse.1 hp) x hx
/-! ### pieces make the whole -/
theorem ch_flatten (n : Nat) (hn : 1 ≤ n) : ∀ (f : Nat) (l : List Int), l.length ≤ f → (chF n f l).flatten = l
  | 0, l, h => by
    have : l = [] := List.length_eq_zero_iff.1 (by omega)
    subst this; rfl
  | f + 1, [], _ => rfl
  | f + 1, c :: r, h => by
    rw [chF_cons n f (c :: r) (Nat.succ_pos _), List.flatten_cons, ch_flatten n hn f _ (by rw [List.length_drop]; rw [List.length_cons] at *; omega), List.take_append_drop]
/-! ### what is folded loses nothing -/
def bare10 (l : List Int) : List Int := l.filter fun x => x != 10
theorem bare10_app (a b : List Int) : bare10 (a ++ b) = bare10 a ++ bare10 b := List.filter_append ..
theorem innerS_bare (words : Bool) (width c : Int) : ∀ (n : Nat) (out p : List Int), bare10 ((innerS words width c n out p).1 ++ (innerS words width c n out p).2) = bare10 (out ++ p)
  | 0, out, p => rfl
  | n + 1, out, p => by
    rw [innerS]
    cases decide (0 < colN p) && decide (width < ((wideN (colN p) c : Nat) : Int))
    · rfl
    · rw [cond_true, innerS_bare words width c n]
      have e : bare10 [10] = [] := rfl
      rw [bare10_app, bare10_app, bare10_app, e, List.append_nil, List.append_assoc, ← bare10_app, List.take_append_drop, ← bare10_app]
theorem stepS_bare (words : Bool) (width c : Int) (out p : List Int) : bare10 ((stepS words width c out p).1 ++ (stepS words width c out p).2) = bare10 (out ++ p) ++ bare10 [c] := by
  unfold stepS
  cases h : c == 10
  · have := innerS_bare words width c p.length out p
    rw [cond_false]
    show bare10 ((innerS words width c p.length out p).1 ++ ((innerS words width c p.length out p).2 ++ [c])) = _
    rw [← List.append_assoc, bare10_app, this]
  · have hc : c = 10 := by simpa using h
    subst hc
    rw [cond_true]
    show bare10 (out ++ p ++ [10] ++ []) = _
    rw [List.append_nil, bare10_app]
theorem foldS_bare (words : Bool) (width : Int) : ∀ (l out p : List Int), bare10 ((foldS words width l out p).1 ++ (foldS words width l out p).2) = bare10 (out ++ p) ++ bare10 l
  | [], out, p => by rw [foldS]; exact (List.append_nil _).symm
  | c :: l, out, p => by
    rw [foldS, foldS_bare words width l, stepS_bare, List.append_assoc, ← bare10_app]; rfl
/-! ### tabs: there and back -/
theorem exp_app (st : List Int) : ∀ (x : List Int) (a : Nat) (y : List Int), expS st a (x ++ y) = expS st a x ++ expS st (x.foldl (stN st) a) y
  | [], a, y => rfl
  | c :: r, a, y => by
    rw [List.cons_append, expS, expS, exp_app st r, List.append_assoc]; rfl
theorem nx_nil (a : Nat) : nx [] a = some ((a / 8 + 1) * 8) := rfl
theorem tab_nil (a : Nat) : tabN [] a = (a / 8 + 1) * 8 := rfl
theorem st32 (a : Nat) : stN [] a 32 = a + 1 := rfl
theorem exp_spaces : ∀ (n a : Nat), expS [] a (List.replicate n 32) = List.replicate n 32 ∧ (List.replicate n (32 : Int)).foldl (stN []) a = a + n
  | 0, a => ⟨rfl, rfl⟩
  | n + 1, a => by
    have ih := exp_spaces n (a + 1)
    rw [List.replicate_succ, expS, List.foldl_cons, st32, ih.1, ih.2]
    exact ⟨rfl, by omega⟩
theorem exp_run : ∀ (f a to : Nat), a ≤ to → to - a ≤ f → expS [] a (runF [] f a to) = List.replicate (to - a) 32 ∧ (runF [] f a to).foldl (stN []) a = to
  | 0, a, to, h, hf => by
    have : a = to := by omega
    subst this
    rw [runF, Nat.sub_self]; exact ⟨rfl, rfl⟩
  | f + 1, a, to, h, hf => by
    rw [runF, nx_nil]
    show expS [] a (bif decide ((a / 8 + 1) * 8 ≤ to) then 9 :: runF [] f ((a / 8 + 1) * 8) to else List.replicate (to - a) 32) = _ ∧ (bif decide ((a / 8 + 1) * 8 ≤ to) then 9 :: runF [] f ((a / 8 + 1) * 8) to else List.replicate (to - a) 32).foldl (stN []) a = to
    by_cases hx : (a / 8 + 1) * 8 ≤ to
    · rw [decide_eq_true hx, cond_true, expS, List.foldl_cons]
      have e1 : ex [] a 9 = List.replicate ((a / 8 + 1) * 8 - a) 32 := rfl
      have e2 : stN [] a 9 = (a / 8 + 1) * 8 := rfl
      have ih := exp_run f ((a / 8 + 1) * 8) to hx (by omega)
      rw [e1, e2, ih.1, ih.2, List.replicate_append_replicate]
      exact ⟨by congr 1; omega, rfl⟩
    · rw [decide_eq_false hx, cond_false]
      have := exp_spaces (to - a) a
      exact ⟨this.1, by rw [this.2]; omega⟩
theorem exp_blanks : ∀ (l : List Int) (a : Nat), (∀ x ∈ l, blB x = true) → a ≤ colB [] a l ∧ expS [] a l = List.replicate (colB [] a l - a) 32 ∧ l.foldl (stN []) a = colB [] a l
  | [], a, _ => ⟨Nat.le_refl _, by rw [colB, Nat.sub_self]; rfl, rfl⟩
  | c :: r, a, h => by
    have hb := h c (List.mem_cons_self ..)
    obtain ⟨i1, i2, i3⟩ := exp_blanks r (tb [] a c) (fun x hx => h x (List.mem_cons_of_mem _ hx))
    have e1 := tb_st (st := []) (a := a) hb
    have ht : a < tb [] a c ∧ ex [] a c = List.replicate (tb [] a c - a) 32 := by
      unfold tb ex
      cases h9 : c == 9
      · have : c = 32 := by
          unfold blB at hb
          rw [h9, Bool.or_false] at hb
          simpa using hb
        subst this
        exact ⟨Nat.lt_succ_self _, by show [32] = List.replicate (a + 1 - a) 32; rw [Nat.add_sub_cancel_left]; rfl⟩
      · exact ⟨by rw [cond_true, tab_nil]; omega, rfl⟩
    rw [expS, List.foldl_cons, ← e1, ht.2, colB, i2, i3, List.replicate_append_replicate]
    exact ⟨by omega, by congr 1; omega, rfl⟩
theorem span_blank : ∀ (l : List Int), ∀ x ∈ l.take (spanB l), blB x = true
  | [], x, hx => by cases hx
  | c :: r, x, hx => by
    cases hb : blB c
    · have : spanB (c :: r) = 0 := by show (bif blB c then _ else 0) = 0; rw [hb]; rfl
      rw [this] at hx; cases hx
    · rw [span_pos hb, List.take_succ_cons] at hx
      cases hx with
      | head => exact hb
      | tail _ hx => exact span_blank r x hx
theorem exp_piece (all first : Bool) (a : Nat) (l : List Int) (h : ∀ x ∈ l, blB x = true) : expS [] a (piece [] all first a l) = expS [] a l ∧ (piece [] all first a l).foldl (stN []) a = l.foldl (stN []) a := by
  obtain ⟨i1, i2, i3⟩ := exp_blanks l a h
  unfold piece
  cases !first && (!all || (Nat.beq l.length 1 && l.getD 0 0 == 32))
  · have := exp_run (colB [] a l - a) a (colB [] a l) i1 (Nat.le_refl _)
    rw [cond_false]
    unfold runS
    rw [this.1, this.2, i2, i3]; exact ⟨rfl, rfl⟩
  · exact ⟨rfl, rfl⟩
theorem exp_V (all : Bool) : ∀ (n : Nat) (first : Bool) (a : Nat) (l : List Int), l.length ≤ n → expS [] a (V [] all first a l) = expS [] a l
  | n, first, a, [], _ => rfl
  | 0, first, a, c :: r, h => by rw [List.length_cons] at h; omega
  | n + 1, first, a, c :: r, h => by
    rw [List.length_cons] at h
    cases hb : blB c
    · rw [V_step (.inl hb), expS, expS, exp_V all n (c == 10) (stN [] a c) r (by omega)]
    · have hp := span_pos (r := r) hb
      obtain ⟨p1, p2⟩ := exp_piece all first a ((c :: r).take (spanB (c :: r))) (span_blank (c :: r))
      obtain ⟨i1, i2, i3⟩ := exp_blanks ((c :: r).take (spanB (c :: r))) a (span_blank (c :: r))
      have ih := exp_V all n false (colB [] a ((c :: r).take (spanB (c :: r)))) ((c :: r).drop (spanB (c :: r))) (by rw [List.length_drop, hp, List.length_cons]; omega)
      rw [V_blank hb, exp_app, p1, p2, i3, ih, ← i3, ← exp_app, List.take_append_drop]
theorem exp_no9 : ∀ (l : List Int) (a : Nat), ∀ x ∈ expS [] a l, (x == 9) = false
  | [], a, x, hx => by cases hx
  | c :: r, a, x, hx => by
    rw [expS, List.mem_append] at hx
    rcases hx with hx | hx
    · unfold ex at hx
      cases h9 : c == 9 <;> rw [h9] at hx
      · rw [List.mem_singleton.1 hx]; exact h9
      · rw [List.eq_of_mem_replicate hx]; rfl
    · exact exp_no9 r _ x hx
end Go.Proofs.Try.S

namespace Go.Proofs.Try.S
open Go Go.Ev
/-! ### expand, with stops at each eighth column -/
theorem stG_nil : stG [] := fun x hx => absurd hx (List.not_mem_nil)
theorem tab8 (a : Nat) : tabN [] a ≤ a + 8 := by rw [tab_nil]; omega
theorem stN8 (a : Nat) (c : Int) : stN [] a c ≤ a + 8 := by
  unfold stN
  cases h : c == 9
  · have := wide1 a c h
    cases c == 10 <;> simp only [cond_true, cond_false] <;> omega
  · exact tab8 a
theorem ex8 (a : Nat) (c : Int) : (ex [] a c).length ≤ 8 := by
  unfold ex
  have := tab8 a
  cases c == 9
  · show 1 ≤ 8; omega
  · rw [cond_true, List.length_replicate]; omega
theorem F38_loop8 (k : Nat) (b : List Int) (hb : b.length ≤ 16000000) (hk2 : 2000 < k) :
    ∀ (m i a : Nat) (acc : List Int) (fu : Nat), i + m = b.length → a ≤ 8 * i → acc.length ≤ 8 * i → m < fu →
      loopN (F38.s506 k) fu (((i : Int), (a : Int), (), own8 [], b, (b.length : Int), ()), (acc, ()), ()) = some (.inr (((), ()), (acc ++ expS [] a (b.drop i), ()), ())) := by
  intro m
  have hs := stG_nil
  have hl : ([] : List Int).length ≤ 1048576 := Nat.zero_le _
  have hk : ([] : List Int).length < k := by show 0 < k; omega
  induction m with
  | zero =>
    intro i a acc fu hi ha hacc hf
    obtain ⟨fu, rfl⟩ : ∃ f', fu = f' + 1 := ⟨fu - 1, by omega⟩
    have hie : i = b.length := by omega
    subst hie
    refine loopN_inr ?_
    simp only [F38.s506, F38.go506, lt_dec', cond_false, List.drop_length]
    simp [expS]
  | succ m ih =>
    intro i a acc fu hi ha hacc hf
    obtain ⟨fu, rfl⟩ : ∃ f', fu = f' + 1 := ⟨fu - 1, by omega⟩
    have hil : i < b.length := by omega
    have w1 := wadd1 i (by show _ < 140737488351232; omega)
    have hd := drop_int hil
    have hst := stN8 a b[i]
    have hex := ex8 a b[i]
    have hnext := ih (i + 1) (stN [] a b[i]) (acc ++ ex [] a b[i]) fu (by omega) (by omega) (by rw [List.length_append]; omega) (by omega)
    rw [loopN_inl (x' := ((((i + 1 : Nat) : Int), ((stN [] a b[i] : Nat) : Int), (), own8 [], b, (b.length : Int), ()), (acc ++ ex [] a b[i], ()), ()))]
    · rw [hnext, hd, expS, List.append_assoc]
    · have ha2 : a ≤ 2000000000 := by omega
      cases h9 : b[i] == 9
      · have hne : (b[i] != 9) = true := by unfold bne; rw [h9]; rfl
        have b1 := bleB (n := (acc ++ [b[i]]).length) (by rw [List.length_append, List.length_singleton]; show _ ≤ 140737488351232; omega)
        have e1 : stN [] a b[i] = (bif b[i] == 10 then 0 else wideN a b[i]) := by unfold stN; rw [h9]; rfl
        have e2 : ex [] a b[i] = [b[i]] := by unfold ex; rw [h9]; rfl
        rw [e1, e2]
        simp only [F38.s506, F38.go506, lt_dec hil, dec0, Bool.true_and, cond_true, Int.toNat_natCast, gD hil, hne, b1, F68_eq k a b[i] h9 ha2, Option.bind_some, w1]
      · have hne : (b[i] != 9) = false := by unfold bne; rw [h9]; rfl
        have ht := tabN_ok hs a
        have ht8 := tab8 a
        have e1 : stN [] a b[i] = tabN [] a := by unfold stN; rw [h9]; rfl
        have e2 : ex [] a b[i] = List.replicate (tabN [] a - a) 32 := by unfold ex; rw [h9]; rfl
        have w2 := wsub (tabN [] a) a (by omega) (by show _ ≤ 140737488351232; omega)
        have f70 := F70_eq k (tabN [] a - a) (by omega) (by omega)
        have b1 := bleB (n := (acc ++ List.replicate (tabN [] a - a) (32 : Int)).length) (by rw [List.length_append, List.length_replicate]; show _ ≤ 140737488351232; omega)
        rw [e1, e2]
        simp only [F38.s506, F38.go506, lt_dec hil, dec0, Bool.true_and, cond_true, Int.toNat_natCast, gD hil, hne, cond_false, F69_eq k [] hs a ha2 hl hk, Option.bind_some, outN_tab, w2, f70, Sum.elim_inl, b1, w1]
theorem F38_eq (k : Nat) (b : List Int) (hb : b.length ≤ 16000000) (hk2 : 2000 < k) (hk3 : b.length < k) : F38.go k b [] = some (.inr (.inl ((((), 0, ()), ()), (expS [] 0 b, ()), ()))) := by
  have loop := F38_loop8 k b hb hk2 b.length 0 0 [] k (by omega) (Nat.zero_le _) (Nat.zero_le _) hk3
  have e0 : ((0 : Nat) : Int) = 0 := rfl
  rw [e0, List.drop_zero, List.nil_append] at loop
  unfold F38.go F38.l_506
  have loop' : loopN (F38.s506 k) k ((0, 0, (), [8], b, (b.length : Int), ()), ([], ()), ()) = some (.inr (((), ()), (expS [] 0 b, ()), ())) := loop
  rw [F67_nil]
  simp only [Option.bind_some, Sum.elim_inl, bne_self_eq_false, cond_false, loop', Sum.elim_inr]
theorem colB8 : ∀ (l : List Int) (a : Nat), colB [] a l ≤ a + 8 * l.length
  | [], a => Nat.le_refl _
  | c :: r, a => by
    have h1 : tb [] a c ≤ a + 8 := by
      unfold tb
      cases c == 9
      · show a + 1 ≤ _; omega
      · exact tab8 a
    have h2 := colB8 r (tb [] a c)
    rw [colB, List.length_cons]
    omega
theorem piece8 (all first : Bool) (a : Nat) (l : List Int) : (piece [] all first a l).length ≤ 8 * l.length := by
  unfold piece
  cases !first && (!all || (Nat.beq l.length 1 && l.getD 0 0 == 32))
  · have h1 := runF_len stG_nil (colB [] a l - a) a (colB [] a l)
    have h2 := colB8 l a
    show (runS [] a (colB [] a l)).length ≤ _
    unfold runS; omega
  · show l.length ≤ _; omega
theorem V8 (all : Bool) : ∀ (n : Nat) (first : Bool) (a : Nat) (l : List Int), l.length ≤ n → (V [] all first a l).length ≤ 8 * l.length
  | n, first, a, [], _ => Nat.zero_le _
  | 0, first, a, c :: r, h => by rw [List.length_cons] at h; omega
  | n + 1, first, a, c :: r, h => by
    rw [List.length_cons] at h
    cases hb : blB c
    · rw [V_step (.inl hb), List.length_cons, List.length_cons]
      have := V8 all n (c == 10) (stN [] a c) r (by omega)
      omega
    · have hle := spanB_le (c :: r)
      have hp := span_pos (r := r) hb
      have h1 := piece8 all first a ((c :: r).take (spanB (c :: r)))
      have h2 := V8 all n false (colB [] a ((c :: r).take (spanB (c :: r)))) ((c :: r).drop (spanB (c :: r))) (by rw [List.length_drop, hp, List.length_cons]; omega)
      rw [V_blank hb, List.length_append]
      rw [List.length_take] at h1
      rw [List.length_drop] at h2
      omega
/-! ### lines and the whole -/
theorem mapA (ls : List (List Int)) (i : Nat) (h : i < ls.length) : AV.ints! ((ls.map lineA).getD i (AV.tuple [])) = ls[i] := by
  rw [List.getD_eq_getElem?_getD, List.getElem?_map, List.getElem?_eq_getElem h]; rfl
theorem F15_full (k : Nat) (b : List Int) (hB : isB b) (hb : b.length ≤ 8000000) (hk : b.length < k) : F15.go k b = some (F15.r (linesF b []).2 ((linesF b []).1.map lineA)) := by
  have hln := piecesF_len b []
  simp only [List.length_nil] at hln
  have L : F15.l_58 k (F15.i58 0 b (piecesF b []).length [] ((piecesF b []).map lineA)) = _ := F15l k b hB hb k 0 [] (Nat.zero_le _) (by omega) rfl
  rw [List.nil_append, List.drop_zero, pieces_bare b [] (fun _ h => by cases h)] at L
  unfold F15.go
  rw [F54_eq k b hB hb hk]
  simp only [Option.bind_some, List.length_map]
  rw [L]
  simp only [Option.bind_some]
  have he := ended_eq b []
  cases e : ((b.length : Nat) : Int) == 0
  · have hne : b.length ≠ 0 := by rw [beq_eq_false_iff_ne] at e; omega
    have w : IntKind.i64.wrap (((b.length : Nat) : Int) - 1) = ((b.length - 1 : Nat) : Int) := by rw [wrap_id (by omega) (by omega)]; omega
    have z1 : (0 : Int) ≤ ((b.length - 1 : Nat) : Int) := by omega
    have z2 : ((b.length - 1 : Nat) : Int) < ((b.length : Nat) : Int) := by omega
    have hem : b.isEmpty = false := by cases b with | nil => exact absurd rfl hne | cons c r => rfl
    rw [hem, cond_false] at he
    simp only [cond_false, w, z1, z2, decide_true, Bool.and_self, cond_true, Int.toNat_natCast, he]
  · have hem : b = [] := by
      rw [beq_iff_eq] at e
      exact List.length_eq_zero_iff.1 (by omega)
    subst hem
    rfl
theorem nl_len : ∀ L : List (List Int), L.length ≤ (nlS L).length
  | [] => Nat.le_refl _
  | l :: r => by
    have := nl_len r
    show r.length + 1 ≤ ((l ++ [10]) ++ nlS r).length
    rw [List.length_append, List.length_append, List.length_singleton]; omega
theorem nl_drop (L : List (List Int)) (i : Nat) (h : i < L.length) : nlS (L.drop i) = (L[i] ++ [10]) ++ nlS (L.drop (i + 1)) := by
  rw [List.drop_eq_getElem_cons h]; rfl
theorem F57_eq (k : Nat) (l : List Int) (h : l.length ≤ 8000000) : F57.go k l = some (((), ()), (l ++ [10], ()), ()) := by
  have b1 := bleB (n := (l ++ [(10 : Int)]).length) (by rw [List.length_append, List.length_singleton]; show _ ≤ 140737488351232; omega)
  unfold F57.go
  rw [F48_eq k l h]
  simp only [Option.bind_some, b1, cond_true]
theorem F56_loop (k : Nat) (L : List (List Int)) (hL : (nlS L).length ≤ 2000000) :
    ∀ (m i fu : Nat) (acc : List Int), i + m = L.length → acc.length + (nlS (L.drop i)).length ≤ 2000000 → m < fu →
      loopN (F56.s58 k) fu (((i : Int), (), (), (), (L.length : Int), ()), (L.map lineA, acc, ()), ()) = some (((), ()), (L.map lineA, acc ++ nlS (L.drop i), ()), ()) := by
  have hLl := nl_len L
  intro m
  induction m with
  | zero =>
    intro i fu acc hi ha hf
    obtain ⟨fu, rfl⟩ : ∃ f', fu = f' + 1 := ⟨fu - 1, by omega⟩
    have hie : i = L.length := by omega
    subst hie
    refine loopN_inr ?_
    simp only [F56.s58, F56.go58, lt_dec', cond_false, List.drop_length]
    simp [nlS]
  | succ m ih =>
    intro i fu acc hi ha hf
    obtain ⟨fu, rfl⟩ : ∃ f', fu = f' + 1 := ⟨fu - 1, by omega⟩
    have hil : i < L.length := by omega
    have hil2 : i < (L.map lineA).length := by rw [List.length_map]; exact hil
    have w1 := wadd1 i (by show _ < 140737488351232; omega)
    have hd := nl_drop L i hil
    have ha' := ha
    rw [hd, List.length_append, List.length_append, List.length_singleton] at ha'
    have b1 := bleB (n := (acc ++ (L[i] ++ [10])).length) (by rw [List.length_append, List.length_append, List.length_singleton]; show _ ≤ 140737488351232; omega)
    rw [loopN_inl (x' := ((((i + 1 : Nat) : Int), (), (), (), (L.length : Int), ()), (L.map lineA, acc ++ (L[i] ++ [10]), ()), ()))]
    · rw [ih (i + 1) fu _ (by omega) (by rw [List.length_append, List.length_append, List.length_singleton]; omega) (by omega), hd, List.append_assoc]
    · simp only [F56.s58, F56.go58, lt_dec hil, lt_dec hil2, dec0, Bool.true_and, cond_true, Int.toNat_natCast, mapA L i hil, F57_eq k L[i] (by omega), Option.bind_some, b1, w1]
theorem F56_eq (k : Nat) (L : List (List Int)) (hL : (nlS L).length ≤ 2000000) (hk : L.length < k) : F56.go k (L.map lineA) = some (((), ()), (L.map lineA, nlS L, ()), ()) := by
  have loop := F56_loop k L hL L.length 0 k [] (by omega) (by rw [List.drop_zero]; simpa using hL) hk
  have e0 : ((0 : Nat) : Int) = 0 := rfl
  rw [e0, List.drop_zero, List.nil_append] at loop
  unfold F56.go F56.l_58
  rw [List.length_map, loop]; rfl
theorem F48_2_eq (k : Nat) (l : List Int) (h : l.length ≤ 8000000) : F48_2.go k l = some (((), ()), (l, l, ()), ()) := by
  have b1 := bleB (n := l.length) (by show _ ≤ 140737488351232; omega)
  unfold F48_2.go
  simp only [b1, cond_true]
theorem F18_eq (k : Nat) (b : List Int) (hb : b.length ≤ 1048576) (hk : b.length + 2 < k) : F18.go k (linesF b []).2 ((linesF b []).1.map lineA) = some (((), ()), ((linesF b []).1.map lineA, b, ()), ()) := by
  have hn := nl_lines b []
  rw [List.nil_append] at hn
  have hlen : (nlS (linesF b []).1).length ≤ b.length + 1 := by
    rw [hn, List.length_append]
    cases (linesF b []).2
    · show _ + 1 ≤ _; omega
    · show _ + 0 ≤ _; omega
  have hl2 := nl_len (linesF b []).1
  unfold F18.go
  rw [F56_eq k _ (by omega) (by omega), Option.bind_some]
  simp only []
  rw [hn]
  cases he : (linesF b []).2
  · have e1 : (b ++ [(10 : Int)]).length = b.length + 1 := by rw [List.length_append, List.length_singleton]
    have d1 : decide (((b.length + 1 : Nat) : Int) > 0) = true := decide_eq_true (by omega)
    have w := wsub (b.length + 1) 1 (by omega) (by show _ ≤ 140737488351232; omega)
    have w' : IntKind.i64.wrap (((b.length + 1 : Nat) : Int) - 1) = (b.length : Int) := w
    have d2 : decide ((b.length : Int) ≤ ((b.length + 1 : Nat) : Int)) = true := decide_eq_true (by omega)
    have f48 := F48_1_eq k 0 b.length (b ++ [10]) (by rw [e1]; omega)
    rw [List.drop_zero, List.take_left] at f48
    simp only [cond_false, Bool.not_false, cond_true, e1, d1, w', dec0, d2, Bool.and_self, Int.toNat_natCast, Nat.sub_zero]
    rw [f48]; rfl
  · simp only [cond_true, Bool.not_true, cond_false, List.append_nil]
    rw [F48_2_eq k b (by omega)]; rfl
end Go.Proofs.Try.S

namespace Go.Proofs.Try.S
open Go Go.Ev
/-! ### slices.Reverse -/
def InvR {α : Type} (l m : List α) (t : Nat) : Prop := m.length = l.length ∧ ∀ i, m[i]? = if i < t ∨ l.length ≤ i + t then l.reverse[i]? else l[i]?
theorem inv_zero {α : Type} (l : List α) : InvR l l 0 := by
  refine ⟨rfl, fun i => ?_⟩
  by_cases h : i < 0 ∨ l.length ≤ i + 0
  · rw [if_pos h, List.getElem?_eq_none (by omega), List.getElem?_eq_none (by rw [List.length_reverse]; omega)]
  · rw [if_neg h]
theorem inv_step {α : Type} {l m : List α} {t : Nat} (h : InvR l m t) (ht : t + t + 1 < l.length) (x y : α) (hx : m[t]? = some x) (hy : m[l.length - 1 - t]? = some y) : InvR l ((m.set t y).set (l.length - 1 - t) x) (t + 1) := by
  obtain ⟨h1, h2⟩ := h
  have et : l[t]? = some x := by
    have := h2 t
    rw [if_neg (by omega), hx] at this
    exact this.symm
  have ej : l[l.length - 1 - t]? = some y := by
    have := h2 (l.length - 1 - t)
    rw [if_neg (by omega), hy] at this
    exact this.symm
  refine ⟨by rw [List.length_set, List.length_set, h1], fun i => ?_⟩
  rw [List.getElem?_set, List.getElem?_set, List.length_set]
  by_cases c1 : l.length - 1 - t = i
  · subst c1
    rw [if_pos rfl, if_pos (by omega), if_pos (by omega), List.getElem?_reverse (by omega)]
    have : l.length - 1 - (l.length - 1 - t) = t := by omega
    rw [this, et]
  · rw [if_neg c1]
    by_cases c2 : t = i
    · subst c2
      rw [if_pos rfl, if_pos (by omega), if_pos (by omega), List.getElem?_reverse (by omega), ej]
    · rw [if_neg c2, h2 i]
      by_cases c3 : i < t ∨ l.length ≤ i + t
      · rw [if_pos c3, if_pos (by omega)]
      · rw [if_neg c3, if_neg (by omega)]
theorem inv_end {α : Type} {l m : List α} {t : Nat} (h : InvR l m t) (ht : l.length ≤ t + t + 1) : m = l.reverse := by
  obtain ⟨h1, h2⟩ := h
  refine List.ext_getElem? fun i => ?_
  rw [h2 i]
  by_cases c : i < t ∨ l.length ≤ i + t
  · rw [if_pos c]
  · rw [if_neg c, List.getElem?_reverse (by omega)]
    congr 1; omega
theorem get_some {α : Type} {m : List α} {i : Nat} (h : i < m.length) : ∃ x, m[i]? = some x := ⟨m[i], List.getElem?_eq_getElem h⟩
theorem F77_loop (k : Nat) (l : List Int) (hl : l.length ≤ 8000000) : ∀ (fu t : Nat) (m : List Int), InvR l m t → l.length ≤ t + fu →
    loopN (F77.s6 k) (fu + 1) ((((l.length : Int) - 1 - (t : Int)), (t : Int), (), ()), (m, ()), ()) = some ((), (l.reverse, ()), ()) := by
  intro fu
  induction fu with
  | zero =>
    intro t m h ht
    refine loopN_inr ?_
    have d : decide ((t : Int) < (l.length : Int) - 1 - (t : Int)) = false := decide_eq_false (by omega)
    have e := inv_end h (by omega)
    simp only [F77.s6, F77.go6, d, cond_false, e]
  | succ fu ih =>
    intro t m h ht
    by_cases c : t + t + 1 < l.length
    · have hm := h.1
      obtain ⟨x, hx⟩ := get_some (m := m) (i := t) (by omega)
      obtain ⟨y, hy⟩ := get_some (m := m) (i := l.length - 1 - t) (by omega)
      have gx : m.getD t 0 = x := by rw [List.getD_eq_getElem?_getD, hx]; rfl
      have gy : m.getD (l.length - 1 - t) 0 = y := by rw [List.getD_eq_getElem?_getD, hy]; rfl
      have d : decide ((t : Int) < ((l.length - 1 - t : Nat) : Int)) = true := decide_eq_true (by omega)
      have ej : ((l.length : Int) - 1 - (t : Int)) = ((l.length - 1 - t : Nat) : Int) := by omega
      have wa := wadd1 t (by show _ < 140737488351232; omega)
      have wb : IntKind.i64.wrap (((l.length - 1 - t : Nat) : Int) - 1) = (l.length : Int) - 1 - ((t + 1 : Nat) : Int) := by rw [wrap_id (by omega) (by omega)]; omega
      rw [loopN_inl (x' := ((((l.length : Int) - 1 - ((t + 1 : Nat) : Int)), ((t + 1 : Nat) : Int), (), ()), ((m.set t y).set (l.length - 1 - t) x, ()), ()))]
      · exact ih (t + 1) _ (inv_step h c x y hx hy) (by omega)
      · have l1 : l.length - 1 - t < m.length := by omega
        have l2 : t < m.length := by omega
        have l3 : l.length - 1 - t < (m.set t y).length := by rw [List.length_set]; omega
        simp only [F77.s6, F77.go6, d, cond_true, ej, dec0, lt_dec l1, lt_dec l2, Bool.true_and, Int.toNat_natCast, gx, gy, lt_dec l3, wa, wb]
    · refine loopN_inr ?_
      have d : decide ((t : Int) < (l.length : Int) - 1 - (t : Int)) = false := decide_eq_false (by omega)
      have e := inv_end h (by omega)
      simp only [F77.s6, F77.go6, d, cond_false, e]
theorem F77_eq (k : Nat) (l : List Int) (hl : l.length ≤ 8000000) (hk : l.length + 1 < k) : F77.go k l = some (((), ()), (l.reverse, ()), ()) := by
  obtain ⟨fu, rfl⟩ : ∃ fu, k = fu + 1 := ⟨k - 1, by omega⟩
  have loop := F77_loop (fu + 1) l hl fu 0 l (inv_zero l) (by omega)
  have w : IntKind.i64.wrap ((l.length : Int) - 1) = (l.length : Int) - 1 - ((0 : Nat) : Int) := by rw [wrap_id (by omega) (by omega)]; omega
  have e0 : ((0 : Nat) : Int) = 0 := rfl
  unfold F77.go F77.l_6
  rw [w, e0]
  rw [e0] at loop
  rw [loop]; rfl
theorem lineA_ints (x : List Int) : AV.ro Bool.false (Lst.I IntKind.u8 (AV.ints! (lineA x))) = lineA x := rfl
theorem F78_loop (k : Nat) (l : List (List Int)) (hl : l.length ≤ 8000000) : ∀ (fu t : Nat) (m : List (List Int)), InvR l m t → l.length ≤ t + fu →
    loopN (F78.s6 k) (fu + 1) ((((l.length : Int) - 1 - (t : Int)), (t : Int), (), ()), (m.map lineA, ()), ()) = some ((), (l.reverse.map lineA, ()), ()) := by
  intro fu
  induction fu with
  | zero =>
    intro t m h ht
    refine loopN_inr ?_
    have d : decide ((t : Int) < (l.length : Int) - 1 - (t : Int)) = false := decide_eq_false (by omega)
    have e := inv_end h (by omega)
    simp only [F78.s6, F78.go6, d, cond_false, e]
  | succ fu ih =>
    intro t m h ht
    by_cases c : t + t + 1 < l.length
    · have hm := h.1
      obtain ⟨x, hx⟩ := get_some (m := m) (i := t) (by omega)
      obtain ⟨y, hy⟩ := get_some (m := m) (i := l.length - 1 - t) (by omega)
      have gx : (m.map lineA).getD t (AV.tuple []) = lineA x := by rw [List.getD_eq_getElem?_getD, List.getElem?_map, hx]; rfl
      have gy : (m.map lineA).getD (l.length - 1 - t) (AV.tuple []) = lineA y := by rw [List.getD_eq_getElem?_getD, List.getElem?_map, hy]; rfl
      have d : decide ((t : Int) < ((l.length - 1 - t : Nat) : Int)) = true := decide_eq_true (by omega)
      have ej : ((l.length : Int) - 1 - (t : Int)) = ((l.length - 1 - t : Nat) : Int) := by omega
      have wa := wadd1 t (by show _ < 140737488351232; omega)
      have wb : IntKind.i64.wrap (((l.length - 1 - t : Nat) : Int) - 1) = (l.length : Int) - 1 - ((t + 1 : Nat) : Int) := by rw [wrap_id (by omega) (by omega)]; omega
      rw [loopN_inl (x' := ((((l.length : Int) - 1 - ((t + 1 : Nat) : Int)), ((t + 1 : Nat) : Int), (), ()), (((m.set t y).set (l.length - 1 - t) x).map lineA, ()), ()))]
      · exact ih (t + 1) _ (inv_step h c x y hx hy) (by omega)
      · have l1 : l.length - 1 - t < (m.map lineA).length := by rw [List.length_map]; omega
        have l2 : t < (m.map lineA).length := by rw [List.length_map]; omega
        have l3 : l.length - 1 - t < ((m.map lineA).set t (lineA y)).length := by rw [List.length_set, List.length_map]; omega
        simp only [F78.s6, F78.go6, d, cond_true, ej, dec0, lt_dec l1, lt_dec l2, Bool.true_and, Int.toNat_natCast, gx, gy, lineA_ints, lt_dec l3, wa, wb, List.map_set]
    · refine loopN_inr ?_
      have d : decide ((t : Int) < (l.length : Int) - 1 - (t : Int)) = false := decide_eq_false (by omega)
      have e := inv_end h (by omega)
      simp only [F78.s6, F78.go6, d, cond_false, e]
theorem F78_eq (k : Nat) (l : List (List Int)) (hl : l.length ≤ 8000000) (hk : l.length + 1 < k) : F78.go k (l.map lineA) = some (((), ()), (l.reverse.map lineA, ()), ()) := by
  obtain ⟨fu, rfl⟩ : ∃ fu, k = fu + 1 := ⟨k - 1, by omega⟩
  have loop := F78_loop (fu + 1) l hl fu 0 l (inv_zero l) (by omega)
  have w : IntKind.i64.wrap ((l.length : Int) - 1) = (l.length : Int) - 1 - ((0 : Nat) : Int) := by rw [wrap_id (by omega) (by omega)]; omega
  have e0 : ((0 : Nat) : Int) = 0 := rfl
  unfold F78.go F78.l_6
  rw [List.length_map, w, e0]
  rw [e0] at loop
  rw [loop]; rfl
/-! ### each -/
theorem drop_cons {α : Type} (L : List α) (i : Nat) (h : i < L.length) : L.drop i = L[i] :: L.drop (i + 1) := List.drop_eq_getElem_cons h
theorem F56_3_loop (k : Nat) (L : List (List Int)) (hn : L.length ≤ 8000000) :
    ∀ (m i fu : Nat) (acc : List Int), i + m = L.length → acc.length + (L.drop i).flatten.length ≤ 8000000 → m < fu →
      loopN (F56_3.s58 k) fu (((i : Int), (), (), (), (L.length : Int), ()), (L.map lineA, acc, ()), ()) = some (((), ()), (L.map lineA, acc ++ (L.drop i).flatten, ()), ()) := by
  intro m
  induction m with
  | zero =>
    intro i fu acc hi ha hf
    obtain ⟨fu, rfl⟩ : ∃ f', fu = f' + 1 := ⟨fu - 1, by omega⟩
    have hie : i = L.length := by omega
    subst hie
    refine loopN_inr ?_
    simp only [F56_3.s58, F56_3.go58, lt_dec', cond_false, List.drop_length]
    simp
  | succ m ih =>
    intro i fu acc hi ha hf
    obtain ⟨fu, rfl⟩ : ∃ f', fu = f' + 1 := ⟨fu - 1, by omega⟩
    have hil : i < L.length := by omega
    have hil2 : i < (L.map lineA).length := by rw [List.length_map]; exact hil
    have w1 := wadd1 i (by show _ < 140737488351232; omega)
    have hd := drop_cons L i hil
    have ha' := ha
    rw [hd, List.flatten_cons, List.length_append] at ha'
    have b1 := bleB (n := (acc ++ L[i]).length) (by rw [List.length_append]; show _ ≤ 140737488351232; omega)
    have f59 : F59.go k L[i] = some ((L[i], ()), (), ()) := rfl
    rw [loopN_inl (x' := ((((i + 1 : Nat) : Int), (), (), (), (L.length : Int), ()), (L.map lineA, acc ++ L[i], ()), ()))]
    · rw [ih (i + 1) fu _ (by omega) (by rw [List.length_append]; omega) (by omega), hd, List.flatten_cons, List.append_assoc]
    · simp only [F56_3.s58, F56_3.go58, lt_dec hil, lt_dec hil2, dec0, Bool.true_and, cond_true, Int.toNat_natCast, mapA L i hil, f59, Option.bind_some, b1, w1]
theorem F56_3_eq (k : Nat) (L : List (List Int)) (hn : L.length ≤ 8000000) (hf : L.flatten.length ≤ 8000000) (hk : L.length < k) : F56_3.go k (L.map lineA) = some (((), ()), (L.map lineA, L.flatten, ()), ()) := by
  have loop := F56_3_loop k L hn L.length 0 k [] (by omega) (by rw [List.drop_zero]; simpa using hf) hk
  have e0 : ((0 : Nat) : Int) = 0 := rfl
  rw [e0, List.drop_zero, List.nil_append] at loop
  unfold F56_3.go F56_3.l_58
  rw [List.length_map, loop]; rfl
theorem F43_eq (k : Nat) (b : List Int) (hB : isB b) (hb : b.length ≤ 1048576) (hk : b.length + 2 < k) : F43.go k b = some (((), ()), (tacS b, ()), ()) := by
  have hpl := piecesF_len b []
  have hpf : (piecesF b []).flatten.length = b.length := by rw [piecesF_flat]; rfl
  simp only [List.length_nil, Nat.zero_add] at hpl
  unfold F43.go
  rw [F54_eq k b hB (by omega) (by omega), Option.bind_some]
  simp only []
  rw [F78_eq k (piecesF b []) (by omega) (by omega), Option.bind_some]
  simp only []
  rw [F56_3_eq k (piecesF b []).reverse (by rw [List.length_reverse]; omega) (by rw [flatten_rev_len]; omega) (by rw [List.length_reverse]; omega)]
  rfl
theorem bare_le (x : List Int) : (bareS x).length ≤ x.length := by
  unfold bareS
  split
  · rw [List.length_take]; omega
  · exact Nat.le_refl _
theorem F76_eq (k : Nat) (x : List Int) (hB : isB x) (hx : x.length ≤ 1048576) (hk : x.length + 1 < k) : F76.go k x = some (((), ()), (revP x, ()), ()) := by
  have hle := bare_le x
  have hrl := revP_len x
  have b1 := bleB (n := (revP x).length) (by rw [hrl]; show _ ≤ 140737488351232; omega)
  have d1 : decide (((bareS x).length : Int) ≤ (x.length : Int)) = true := decide_eq_true (by omega)
  unfold F76.go
  rw [F55_eq k x hB (by omega)]
  simp only [Option.bind_some]
  rw [F48_eq k (bareS x) (by omega)]
  simp only [Option.bind_some]
  rw [F77_eq k (bareS x) (by omega) (by omega)]
  simp only [Option.bind_some, dec0, d1, Bool.true_and, Bool.and_true, cond_true, Int.toNat_natCast]
  have e : (bareS x).reverse ++ x.drop (bareS x).length = revP x := rfl
  rw [e, b1]; rfl
theorem F56_2_loop (k : Nat) (L : List (List Int)) (hn : L.length ≤ 8000000) (hB : ∀ x ∈ L, isB x) (hX : ∀ x ∈ L, x.length ≤ 1048576) (hk : 1048578 < k) :
    ∀ (m i fu : Nat) (acc : List Int), i + m = L.length → acc.length + ((L.drop i).map revP).flatten.length ≤ 8000000 → m < fu →
      loopN (F56_2.s58 k) fu (((i : Int), (), (), (), (L.length : Int), ()), (L.map lineA, acc, ()), ()) = some (((), ()), (L.map lineA, acc ++ ((L.drop i).map revP).flatten, ()), ()) := by
  intro m
  induction m with
  | zero =>
    intro i fu acc hi ha hf
    obtain ⟨fu, rfl⟩ : ∃ f', fu = f' + 1 := ⟨fu - 1, by omega⟩
    have hie : i = L.length := by omega
    subst hie
    refine loopN_inr ?_
    simp only [F56_2.s58, F56_2.go58, lt_dec', cond_false, List.drop_length]
    simp
  | succ m ih =>
    intro i fu acc hi ha hf
    obtain ⟨fu, rfl⟩ : ∃ f', fu = f' + 1 := ⟨fu - 1, by omega⟩
    have hil : i < L.length := by omega
    have hil2 : i < (L.map lineA).length := by rw [List.length_map]; exact hil
    have w1 := wadd1 i (by show _ < 140737488351232; omega)
    have hd := drop_cons L i hil
    have ha' := ha
    rw [hd, List.map_cons, List.flatten_cons, List.length_append] at ha'
    have b1 := bleB (n := (acc ++ revP L[i]).length) (by rw [List.length_append]; show _ ≤ 140737488351232; omega)
    have hx := hX L[i] (List.getElem_mem hil)
    rw [loopN_inl (x' := ((((i + 1 : Nat) : Int), (), (), (), (L.length : Int), ()), (L.map lineA, acc ++ revP L[i], ()), ()))]
    · rw [ih (i + 1) fu _ (by omega) (by rw [List.length_append]; omega) (by omega), hd, List.map_cons, List.flatten_cons, List.append_assoc]
    · simp only [F56_2.s58, F56_2.go58, lt_dec hil, lt_dec hil2, dec0, Bool.true_and, cond_true, Int.toNat_natCast, mapA L i hil, F76_eq k L[i] (hB _ (List.getElem_mem hil)) hx (by omega), Option.bind_some, b1, w1]
theorem F42_eq (k : Nat) (b : List Int) (hB : isB b) (hb : b.length ≤ 1048576) (hk : 2000000 < k) : F42.go k b = some (((), ()), (rv b [], ()), ()) := by
  have hpl := piecesF_len b []
  simp only [List.length_nil, Nat.zero_add] at hpl
  have hrv := rv_pieces b [] flat_nil
  have hrl := rv_len b []
  simp only [List.length_nil, Nat.add_zero] at hrl
  have loop := F56_2_loop k (piecesF b []) (by omega) (pieces_isB hB) (fun x hx => by have := pieces_mem_len x hx; omega) (by omega) (piecesF b []).length 0 k [] (by omega) (by rw [List.drop_zero, hrv, hrl]; simp; omega) (by omega)
  have e0 : ((0 : Nat) : Int) = 0 := rfl
  rw [e0, List.drop_zero, List.nil_append, hrv] at loop
  unfold F42.go
  rw [F54_eq k b hB (by omega) (by omega), Option.bind_some]
  unfold F56_2.go F56_2.l_58
  simp only [List.length_map]
  rw [loop]; rfl
end Go.Proofs.Try.S

namespace Go.Proofs.Try.S
open Go Go.Ev
/-! ### bare, odd -/
theorem F44_eq (k : Nat) (l : List Int) (hl : l.length ≤ 8000000) (hk : l.length < k) : F44.go k l = some (((), ()), (bare10 l, ()), ()) := by
  have loop : ∀ (m i fu : Nat) (acc : List Int), i + m = l.length → acc.length ≤ i → m < fu →
      loopN (F44.s58 k) fu (((i : Int), (), l, (l.length : Int), ()), (acc, ()), ()) = some (((), ()), (acc ++ bare10 (l.drop i), ()), ()) := by
    intro m
    induction m with
    | zero =>
      intro i fu acc hi ha hf
      obtain ⟨fu, rfl⟩ : ∃ f', fu = f' + 1 := ⟨fu - 1, by omega⟩
      have hie : i = l.length := by omega
      subst hie
      refine loopN_inr ?_
      simp only [F44.s58, F44.go58, lt_dec', cond_false, List.drop_length]
      simp [bare10]
    | succ m ih =>
      intro i fu acc hi ha hf
      obtain ⟨fu, rfl⟩ : ∃ f', fu = f' + 1 := ⟨fu - 1, by omega⟩
      have hil : i < l.length := by omega
      have w1 := wadd1 i (by show _ < 140737488351232; omega)
      have hd := drop_int hil
      have e : bare10 (l.drop i) = (bif l[i] != 10 then [l[i]] else []) ++ bare10 (l.drop (i + 1)) := by
        rw [hd]; unfold bare10; rw [List.filter_cons]; cases l[i] != 10 <;> rfl
      rw [e]
      cases h : l[i] != 10
      · rw [loopN_inl (x' := ((((i + 1 : Nat) : Int), (), l, (l.length : Int), ()), (acc, ()), ()))]
        · rw [ih (i + 1) fu acc (by omega) (by omega) (by omega)]; rfl
        · simp only [F44.s58, F44.go58, lt_dec hil, dec0, Bool.true_and, cond_true, Int.toNat_natCast, gD hil, h, cond_false, w1]
      · have b1 := bleB (n := (acc ++ [l[i]]).length) (by rw [List.length_append, List.length_singleton]; show _ ≤ 140737488351232; omega)
        rw [loopN_inl (x' := ((((i + 1 : Nat) : Int), (), l, (l.length : Int), ()), (acc ++ [l[i]], ()), ()))]
        · rw [ih (i + 1) fu _ (by omega) (by rw [List.length_append, List.length_singleton]; omega) (by omega), List.append_assoc]; rfl
        · simp only [F44.s58, F44.go58, lt_dec hil, dec0, Bool.true_and, cond_true, Int.toNat_natCast, gD hil, h, b1, w1]
  have := loop l.length 0 k [] (by omega) (Nat.le_refl _) hk
  have e0 : ((0 : Nat) : Int) = 0 := rfl
  rw [e0, List.drop_zero, List.nil_append] at this
  unfold F44.go F44.l_58
  rw [this]; rfl
theorem F45_ex (k : Nat) (l : List Int) (hl : l.length ≤ 8000000) (hk : l.length < k) : ∃ e, F45.go k l = some ((e, ()), (), ()) := by
  have loop : ∀ (m i fu : Nat), i + m = l.length → m < fu →
      (loopN (F45.s26 k) fu (((i : Int), l, (l.length : Int), ()), (), ()) = some (.inl ((true, ()), (), ())) ∨ loopN (F45.s26 k) fu (((i : Int), l, (l.length : Int), ()), (), ()) = some (.inr ((), (), ()))) := by
    intro m
    induction m with
    | zero =>
      intro i fu hi hf
      obtain ⟨fu, rfl⟩ : ∃ f', fu = f' + 1 := ⟨fu - 1, by omega⟩
      have hie : i = l.length := by omega
      subst hie
      right
      refine loopN_inr ?_
      simp only [F45.s26, F45.go26, lt_dec', cond_false]
    | succ m ih =>
      intro i fu hi hf
      obtain ⟨fu, rfl⟩ : ∃ f', fu = f' + 1 := ⟨fu - 1, by omega⟩
      have hil : i < l.length := by omega
      have w1 := wadd1 i (by show _ < 140737488351232; omega)
      cases h8 : l[i] == 8
      · cases h13 : l[i] == 13
        · have e : F45.s26 k (((i : Int), l, (l.length : Int), ()), (), ()) = some (.inl ((((i + 1 : Nat) : Int), l, (l.length : Int), ()), (), ())) := by
            simp only [F45.s26, F45.go26, lt_dec hil, dec0, Bool.true_and, cond_true, Int.toNat_natCast, gD hil, h8, h13, cond_false, w1]
          rw [loopN_inl e]
          exact ih (i + 1) fu (by omega) (by omega)
        · left
          refine loopN_inr ?_
          simp only [F45.s26, F45.go26, lt_dec hil, dec0, Bool.true_and, cond_true, Int.toNat_natCast, gD hil, h8, h13, cond_false]
      · left
        refine loopN_inr ?_
        simp only [F45.s26, F45.go26, lt_dec hil, dec0, Bool.true_and, cond_true, Int.toNat_natCast, gD hil, h8]
  have e0 : ((0 : Nat) : Int) = 0 := rfl
  have := loop l.length 0 k (by omega) hk
  rw [e0] at this
  unfold F45.go F45.l_26
  rcases this with h | h
  · rw [h]; exact ⟨true, rfl⟩
  · rw [h]; exact ⟨false, rfl⟩
/-! ### split -/
theorem F29_ex (k : Nat) (b : List Int) (n : Nat) (hn : 1 ≤ n) (hn2 : n ≤ 8000000) (pre : ByteArray) (hp : pre.size ≤ 8000000) (hb : b.length ≤ 1048576) (hk : b.length + 1000 < k) :
    (∃ e : Int, (e == 0) = false ∧ F29.go k b 0 (n : Int) pre = some (F29.r_0 e)) ∨ ∃ (N : List ByteArray) (O : List (List Int)), O.flatten = b ∧ O.length ≤ 676 ∧ F29.go k b 0 (n : Int) pre = some (F29.r_1 0 N (O.map lineA)) := by
  have h29 := F29b k n hn pre k b.length b [] (by omega) (by omega) (Nat.le_refl _) (by simp)
  rw [List.nil_append, List.length_nil, Nat.sub_zero] at h29
  have h29 : F29.l_246 k (F29.i246 b n pre []) = _ := h29
  have d1 : decide ((0 : Int) < 0) = false := rfl
  have d2 : decide ((n : Int) < 0) = false := decide_eq_false (by omega)
  have d3 : decide ((0 : Int) > 0) = false := rfl
  have d4 : decide ((n : Int) > 0) = true := decide_eq_true (by omega)
  have hfl := ch_flatten n hn b.length b (Nat.le_refl _)
  by_cases q : (chF n b.length b).length ≤ 676
  · right
    obtain ⟨N, hN, h⟩ := names_ex k pre hp (chF n b.length b).length (by omega) ((chF n b.length b).map lineA) k 0 [] (Nat.zero_le _) (by omega) rfl
    have h : F29.l_1018 k (F29.i1018 0 pre (chF n b.length b).length [] ((chF n b.length b).map lineA)) = _ := h
    have ht : (chF n b.length b).take 677 = chF n b.length b := List.take_of_length_le (by omega)
    have d : decide ((((chF n b.length b).map lineA).length : Int) > 676) = false := decide_eq_false (by rw [List.length_map]; omega)
    refine ⟨N, chF n b.length b, hfl, q, ?_⟩
    unfold F29.go F29.go63
    simp only [d1, d2, d3, d4, cond_true, cond_false, show (false == true) = false from rfl]
    rw [h29]
    simp only [Option.bind_some, ht, d, cond_false]
    rw [List.length_map, h]; rfl
  · left
    have d : decide (((((chF n b.length b).take 677).map lineA).length : Int) > 676) = true := decide_eq_true (by rw [List.length_map, List.length_take]; omega)
    refine ⟨34, rfl, ?_⟩
    unfold F29.go
    simp only [d1, d2, d3, d4, cond_true, cond_false, show (false == true) = false from rfl]
    rw [h29]
    simp only [Option.bind_some, d, cond_true]
/-! ### the law's own loops -/
theorem F9_cat (k : Nat) (b : List Int) (kk e : Int) (L : List (List Int)) (hn : L.length ≤ 8000000) (hf : L.flatten.length ≤ 8000000) (hk : L.length < k) :
    F9.l_2042 k ((0, (), (), b, kk, e, (L.length : Int), ()), ([], L.map lineA, ()), ()) = some ((b, kk, (), e, ()), (L.flatten, ()), ()) := by
  have loop : ∀ (m i fu : Nat) (acc : List Int), i + m = L.length → acc.length + (L.drop i).flatten.length ≤ 8000000 → m < fu →
      loopN (F9.s2042 k) fu (((i : Int), (), (), b, kk, e, (L.length : Int), ()), (acc, L.map lineA, ()), ()) = some ((b, kk, (), e, ()), (acc ++ (L.drop i).flatten, ()), ()) := by
    intro m
    induction m with
    | zero =>
      intro i fu acc hi ha hf
      obtain ⟨fu, rfl⟩ : ∃ f', fu = f' + 1 := ⟨fu - 1, by omega⟩
      have hie : i = L.length := by omega
      subst hie
      refine loopN_inr ?_
      simp only [F9.s2042, F9.go2042, lt_dec', cond_false, List.drop_length]
      simp
    | succ m ih =>
      intro i fu acc hi ha hf
      obtain ⟨fu, rfl⟩ : ∃ f', fu = f' + 1 := ⟨fu - 1, by omega⟩
      have hil : i < L.length := by omega
      have hil2 : i < (L.map lineA).length := by rw [List.length_map]; exact hil
      have w1 := wadd1 i (by show _ < 140737488351232; omega)
      have hd := drop_cons L i hil
      have ha' := ha
      rw [hd, List.flatten_cons, List.length_append] at ha'
      have b1 := bleB (n := (acc ++ L[i]).length) (by rw [List.length_append]; show _ ≤ 140737488351232; omega)
      rw [loopN_inl (x' := ((((i + 1 : Nat) : Int), (), (), b, kk, e, (L.length : Int), ()), (acc ++ L[i], L.map lineA, ()), ()))]
      · rw [ih (i + 1) fu _ (by omega) (by rw [List.length_append]; omega) (by omega), hd, List.flatten_cons, List.append_assoc]
      · simp only [F9.s2042, F9.go2042, lt_dec hil, lt_dec hil2, dec0, Bool.true_and, cond_true, Int.toNat_natCast, mapA L i hil, b1, w1]
  have := loop L.length 0 k [] (by omega) (by rw [List.drop_zero]; simpa using hf) hk
  have e0 : ((0 : Nat) : Int) = 0 := rfl
  rw [e0, List.drop_zero, List.nil_append] at this
  exact this
theorem F9_no9 (k : Nat) (b : List Int) (h g e : Int) (x y : List Int) (h9 : ∀ c ∈ x, (c == 9) = false) (hn : x.length ≤ 100000000000) (hk : x.length < k) :
    F9.l_262138 k ((0, (), (), (), b, h, g, e, (x.length : Int), ()), (x, y, ()), ()) = some (.inr (((), (), b, h, g, e, ()), (y, x, ()), ())) := by
  have loop : ∀ (m i fu : Nat), i + m = x.length → m < fu →
      loopN (F9.s262138 k) fu (((i : Int), (), (), (), b, h, g, e, (x.length : Int), ()), (x, y, ()), ()) = some (.inr (((), (), b, h, g, e, ()), (y, x, ()), ())) := by
    intro m
    induction m with
    | zero =>
      intro i fu hi hf
      obtain ⟨fu, rfl⟩ : ∃ f', fu = f' + 1 := ⟨fu - 1, by omega⟩
      have hie : i = x.length := by omega
      subst hie
      refine loopN_inr ?_
      simp only [F9.s262138, F9.go262138, lt_dec', cond_false]
    | succ m ih =>
      intro i fu hi hf
      obtain ⟨fu, rfl⟩ : ∃ f', fu = f' + 1 := ⟨fu - 1, by omega⟩
      have hil : i < x.length := by omega
      have w1 := wadd1 i (by show _ < 140737488351232; omega)
      have hc := h9 x[i] (List.getElem_mem hil)
      have e' : F9.s262138 k (((i : Int), (), (), (), b, h, g, e, (x.length : Int), ()), (x, y, ()), ()) = some (.inl ((((i + 1 : Nat) : Int), (), (), (), b, h, g, e, (x.length : Int), ()), (x, y, ()), ())) := by
        simp only [F9.s262138, F9.go262138, lt_dec hil, dec0, Bool.true_and, cond_true, Int.toNat_natCast, gD hil, hc, cond_false, w1]
      rw [loopN_inl e']
      exact ih (i + 1) fu (by omega) (by omega)
  have := loop x.length 0 k (by omega) hk
  have e0 : ((0 : Nat) : Int) = 0 := rfl
  rw [e0] at this
  exact this
theorem exp_len : ∀ (l : List Int) (a : Nat), (expS [] a l).length ≤ 8 * l.length
  | [], a => Nat.zero_le _
  | c :: r, a => by
    have h1 := exp_len r (stN [] a c)
    have h2 := ex8 a c
    rw [expS, List.length_append, List.length_cons]; omega
theorem bare10_len (l : List Int) : (bare10 l).length ≤ l.length := List.length_filter_le ..
/-! ### TextBack's end -/
theorem F9_end (k : Nat) (b : List Int) (kk : Nat) (hkk : kk < 1000) (hb : b.length ≤ 1048576) (hk : 2000000002 < k + 200) : F9.go1023 (k + 200) b (kk : Int) = some (.inl ((true, ()), (), ())) := by
  have hs := stG_nil
  have w := wadd1 kk (by show _ < 140737488351232; omega)
  have f10 := F10_eq (k + 200) true ((kk + 1 : Nat) : Int) b hb (by omega)
  have d1 : decide (((kk + 1 : Nat) : Int) < 1) = false := decide_eq_false (by omega)
  rw [d1, cond_false] at f10
  have hfb := foldS_bare true ((kk + 1 : Nat) : Int) b [] []
  have hfl := foldS_len true ((kk + 1 : Nat) : Int) b [] [] 0 (by simp) (by simp)
  have hlen : ((foldS true ((kk + 1 : Nat) : Int) b [] []).1 ++ (foldS true ((kk + 1 : Nat) : Int) b [] []).2).length ≤ 8000000 := by rw [List.length_append]; omega
  generalize (foldS true ((kk + 1 : Nat) : Int) b [] []).1 ++ (foldS true ((kk + 1 : Nat) : Int) b [] []).2 = fo at f10 hfb hlen
  have hfb : bare10 fo = bare10 b := hfb
  have hV := V8 true b.length true 0 b (Nat.le_refl _)
  have f38 := F38_eq (k + 200) b (by omega) (by omega) (by omega)
  have f40 := F40_good (k + 200) [] b hs (by decide) hb (Nat.zero_le _) (by show 0 < _; omega) hk true
  have f38u := F38_eq (k + 200) (V [] true true 0 b) (by omega) (by omega) (by omega)
  rw [exp_V true b.length true 0 b (Nat.le_refl _)] at f38u
  have hel := exp_len b 0
  have f9 := F9_no9 (k + 200) b 0 0 0 (expS [] 0 b) (expS [] 0 b) (exp_no9 b 0) (by omega) (by omega)
  obtain ⟨od, hod⟩ := F45_ex (k + 200) b (by omega) (by omega)
  have f12 : ∀ l, F12.go (k + 200) l l = some ((true, ()), (), ()) := fun l => F12_eq _ l l rfl
  have b0 : ((0 : Int) == 0) = true := rfl
  unfold F9.go1023
  rw [w, f10]
  simp only [Option.bind_some, Sum.elim_inr, bne_self_eq_false, cond_false]
  rw [F44_eq (k + 200) fo hlen (by omega), F44_eq (k + 200) b (by omega) (by omega), hfb]
  simp only [Option.bind_some, f12, Bool.not_true, cond_false]
  rw [f38]
  simp only [Option.bind_some, Sum.elim_inr, Sum.elim_inl]
  rw [f40]
  simp only [Option.bind_some, Sum.elim_inr, Sum.elim_inl]
  rw [f38u]
  simp only [Option.bind_some, Sum.elim_inr, Sum.elim_inl]
  rw [f9]
  simp only [Option.bind_some, Sum.elim_inr, Sum.elim_inl, b0, cond_true]
  rw [hod]
  simp only [Option.bind_some, f12, F13_eq, cond_true]
  cases od <;> rfl
theorem first_nat (n m : Nat) : firstN (n : Int) m = min n m := by
  unfold firstN
  rw [if_pos (by omega)]
  by_cases h : (n : Int) > (m : Int)
  · rw [if_pos h]; omega
  · rw [if_neg h]; omega
theorem last_nat (n m : Nat) : lastN ((n + 1 : Nat) : Int) m true = min n m := by
  show (if ((n + 1 : Nat) : Int) < 2 then 0 else if ((n + 1 : Nat) : Int) - 1 > (m : Int) then m else (((n + 1 : Nat) : Int) - 1).toNat) = _
  by_cases h : ((n + 1 : Nat) : Int) < 2
  · rw [if_pos h]; omega
  · rw [if_neg h]
    by_cases h2 : ((n + 1 : Nat) : Int) - 1 > (m : Int)
    · rw [if_pos h2]; omega
    · rw [if_neg h2]; omega
theorem head_tail (b : List Int) (n : Nat) : headS b (n : Int) ++ tailS b ((n + 1 : Nat) : Int) true = b := by
  unfold headS tailS
  rw [first_nat, last_nat, ← List.flatten_append, List.take_append_drop, piecesF_flat]; rfl
theorem textBack (k : Nat) (b : List Int) (n : Int) (hB : isB b) (hb : b.length ≤ 1048576) (hn : 0 ≤ n) (hk : 2000000002 < k + 200) : F9.go (k + 200) b n = some (.inl ((true, ()), (), ())) := by
  obtain ⟨m, rfl⟩ : ∃ m : Nat, n = (m : Int) := ⟨n.toNat, by omega⟩
  have hm : m % 1000 < 1000 := Nat.mod_lt _ (by omega)
  have e1 : Int.tmod (m : Int) 1000 = ((m % 1000 : Nat) : Int) := rfl
  generalize m % 1000 = kk at hm e1
  have w0 := wz kk (by show _ ≤ 140737488351232; omega)
  have w1 := wadd1 kk (by show _ < 140737488351232; omega)
  have i1 : i64 (kk : Int) := ⟨by omega, by omega⟩
  have i2 : i64 ((kk + 1 : Nat) : Int) := ⟨by omega, by omega⟩
  have f12 : ∀ l, F12.go (k + 200) l l = some ((true, ()), (), ()) := fun l => F12_eq _ l l rfl
  have hht := head_tail b kk
  have b1 := bleB (n := b.length) (by show _ ≤ 140737488351232; omega)
  have f23 := F23_eq (k + 200) b (kk : Int) hB hb (by omega) i1
  have f27 := F27_eq (k + 200) b ((kk + 1 : Nat) : Int) true hB hb (by omega) i2
  rw [first_nat] at f23
  rw [last_nat] at f27
  have hrvB := rv_isB b [] hB (fun x hx => absurd hx (List.not_mem_nil))
  have hrl := rv_len b []
  simp only [List.length_nil, Nat.add_zero] at hrl
  have hrr := rv_rv b [] flat_nil
  rw [List.nil_append] at hrr
  have f42a := F42_eq (k + 200) b hB hb (by omega)
  have f42b := F42_eq (k + 200) (rv b []) hrvB (by omega) (by omega)
  rw [hrr] at f42b
  have f9e := F9_end k b kk hm hb hk
  have f29 := F29_ex (k + 200) b (kk + 1) (by omega) (by omega) { data := { toList := [OfNat.ofNat 120] } } (by decide) hb (by omega)
  -- behind Tac
  have fin : (Option.bind (F29.go (k + 200) b 0 ((kk + 1 : Nat) : Int) { data := { toList := [OfNat.ofNat 120] } }) fun y15 => Sum.elim
      (fun y16 => Option.bind (F9.l_2042 (k + 200) ((0, (), (), b, (kk : Int), y16.1.1.2.2.1, 0, ()), ([], [], ()), ())) fun y17 => bif y17.1.2.2.2.1 == 0 then Option.bind (F12.go (k + 200) y17.2.1.1 y17.1.1) fun y18 => bif !y18.1.1 then some (.inl ((false, ()), (), ())) else Option.bind (F9.go1023 (k + 200) y17.1.1 y17.1.2.1) fun y19 => Sum.elim (fun y20 => some (.inl ((y20.1.1, ()), (), ()))) (fun y20 => some (.inr ((y20.1.1, ()), (), ()))) y19
        else Option.bind (F9.go1023 (k + 200) y17.1.1 y17.1.2.1) fun y18 => Sum.elim (fun y19 => some (.inl ((y19.1.1, ()), (), ()))) (fun y19 => some (.inr ((y19.1.1, ()), (), ()))) y18)
      (fun y16 => Option.bind (F9.l_2042 (k + 200) ((0, (), (), b, (kk : Int), y16.1.1.2.2.1, ((y16.2.1.2.1).length : Int), ()), ([], y16.2.1.2.1, ()), ())) fun y17 => bif y17.1.2.2.2.1 == 0 then Option.bind (F12.go (k + 200) y17.2.1.1 y17.1.1) fun y18 => bif !y18.1.1 then some (.inl ((false, ()), (), ())) else Option.bind (F9.go1023 (k + 200) y17.1.1 y17.1.2.1) fun y19 => Sum.elim (fun y20 => some (.inl ((y20.1.1, ()), (), ()))) (fun y20 => some (.inr ((y20.1.1, ()), (), ()))) y19
        else Option.bind (F9.go1023 (k + 200) y17.1.1 y17.1.2.1) fun y18 => Sum.elim (fun y19 => some (.inl ((y19.1.1, ()), (), ()))) (fun y19 => some (.inr ((y19.1.1, ()), (), ()))) y18) y15) = (some (.inl ((true, ()), (), ())) : Option (((Bool × PUnit) × PUnit × PUnit) ⊕ ((ByteArray × PUnit) × PUnit × PUnit))) := by
    rcases f29 with ⟨e, he, h⟩ | ⟨N, O, hO, hOl, h⟩
    · rw [h]
      have cat := F9_cat (k + 200) b (kk : Int) e [] (Nat.zero_le _) (Nat.zero_le _) (by show 0 < _; omega)
      have cat : F9.l_2042 (k + 200) ((0, (), (), b, (kk : Int), e, 0, ()), ([], [], ()), ()) = _ := cat
      simp only [Option.bind_some, Sum.elim_inl, cat, he, cond_false, f9e]
    · rw [h]
      have cat := F9_cat (k + 200) b (kk : Int) 0 O (by omega) (by rw [hO]; omega) (by omega)
      rw [hO] at cat
      have b0 : ((0 : Int) == 0) = true := rfl
      simp only [Option.bind_some, Sum.elim_inr, List.length_map, cat, b0, cond_true, f12, Bool.not_true, cond_false, f9e, Sum.elim_inl]
  unfold F9.go
  rw [e1, w0, w1]
  rw [F15_full (k + 200) b hB (by omega) (by omega)]
  simp only [Option.bind_some]
  rw [F18_eq (k + 200) b hb (by omega)]
  simp only [Option.bind_some, f12, Bool.not_true, cond_false]
  rw [F21_eq (k + 200) b (kk : Int) hB hb (by omega) i1]
  simp only [Option.bind_some]
  rw [F25_eq (k + 200) b ((kk + 1 : Nat) : Int) true hB hb (by omega) i2]
  simp only [Option.bind_some, hht, b1, cond_true, f12, Bool.not_true, cond_false]
  rw [f23]
  simp only [Option.bind_some]
  rw [f27]
  simp only [Option.bind_some, List.take_append_drop, b1, cond_true, f12, Bool.not_true, cond_false]
  rw [f42a]
  simp only [Option.bind_some]
  rw [f42b]
  simp only [Option.bind_some, f12, Bool.not_true, cond_false]
  cases he : (linesF b []).2
  · rw [cond_false]
    exact fin
  · rw [cond_true, F43_eq (k + 200) b hB hb (by omega)]
    simp only [Option.bind_some]
    rw [F43_eq (k + 200) (tacS b) (tac_isB hB) (by rw [tac_len]; exact hb) (by rw [tac_len]; omega), tac_tac b he]
    simp only [Option.bind_some, f12, Bool.not_true, cond_false]
    exact fin
theorem u64_of_wf {n : Int} (h : (Lit.int .u64 n).wf = true) : 0 ≤ n := by
  have h2 : (IntKind.u64.min ≤ n ∧ n ≤ IntKind.u64.max) := by
    simpa only [Lit.wf, Bool.and_eq_true, decide_eq_true_eq] using h
  exact h2.1
end Go.Proofs.Try.S

