/- The plain law: what the functions that the law compares make is the same, over lists and numbers alone. -/
import Derived.Test.YtlkhhhfoiipiaaaTabsWalk2
import Derived.Test.YtlkhhhfoiipiaaaEv4
set_option linter.unusedVariables false
set_option linter.unusedSimpArgs false
set_option linter.unusedSectionVars false
set_option maxRecDepth 100000
namespace Go.Proofs.Try.S
open Go Go.Ev
theorem loopN_inr {A B : Type} {f : A → Option (A ⊕ B)} {k : Nat} {x : A} {y : B} (h : f x = some (.inr y)) : loopN f (k + 1) x = some y := by
  unfold loopN; rw [h]
theorem loopN_inl {A B : Type} {f : A → Option (A ⊕ B)} {k : Nat} {x x' : A} (h : f x = some (.inl x')) : loopN f (k + 1) x = loopN f k x' := by
  rw [loopN, h]
theorem drop_int {l : List Int} {i : Nat} (h : i < l.length) : l.drop i = l[i] :: l.drop (i + 1) := List.drop_eq_getElem_cons h
/-- the column behind a byte -/
def wideN (at_ : Nat) (c : Int) : Nat := bif c == 9 then at_ + 8 - at_ % 8 else bif c == 8 then at_ - 1 else bif c == 13 then 0 else at_ + 1
theorem F46_eq (k a : Nat) (c : Int) (h : a ≤ 2000000000) : F46.go k (a : Int) c = some ((((wideN a c : Nat) : Int), ()), (), ()) := by
  have e1 : IntKind.i64.wrap ((a : Int) + 8) = (a : Int) + 8 := wrap_id (by omega) (by omega)
  have e2 : (a : Int).tmod 8 = ((a % 8 : Nat) : Int) := rfl
  have e3 : IntKind.i64.wrap ((a : Int) + 8 - ((a % 8 : Nat) : Int)) = ((a + 8 - a % 8 : Nat) : Int) := by rw [wrap_id (by omega) (by omega)]; omega
  have e4 : IntKind.i64.wrap ((a : Int) - 1) = (a : Int) - 1 := wrap_id (by omega) (by omega)
  have e5 : IntKind.i64.wrap ((a : Int) + 1) = ((a + 1 : Nat) : Int) := by rw [wrap_id (by omega) (by omega)]; rfl
  unfold F46.go wideN
  cases c == 9
  · cases c == 8
    · cases c == 13
      · simp only [cond_false, e5]
      · rfl
    · simp only [cond_false, cond_true, Bool.and_self, Bool.true_and, Bool.and_true, e4]
      by_cases h0 : a = 0
      · subst h0; rfl
      · have : ¬ ((a : Int) - 1 < 0) := by omega
        simp only [this, decide_false, cond_false]
        congr 3
        omega
  · simp only [cond_true, Bool.and_self, Bool.true_and, Bool.and_true, e1, e2, e3]
def linesF : List Int → List Int → List (List Int) × Bool
  | [], line => bif line.isEmpty then ([], true) else ([line], false)
  | c :: r, line => bif c == 10 then (line :: (linesF r []).1, (linesF r []).2) else linesF r (line ++ [c])
theorem F51_eq (k a : Nat) (c : Int) (h : a ≤ 2000000000) : F51.go k (a : Int) c = some ((((wideN a c : Nat) : Int), ()), (), ()) := by
  have e2 : (a : Int).tdiv 8 = ((a / 8 : Nat) : Int) := rfl
  have e3 : IntKind.i64.wrap (((a / 8 : Nat) : Int) * 8) = ((a / 8 : Nat) : Int) * 8 := wrap_id (by omega) (by omega)
  have e1 : IntKind.i64.wrap (((a / 8 : Nat) : Int) * 8 + 8) = ((a + 8 - a % 8 : Nat) : Int) := by rw [wrap_id (by omega) (by omega)]; omega
  have e4 : IntKind.i64.wrap ((a : Int) - 1) = (a : Int) - 1 := wrap_id (by omega) (by omega)
  have e5 : IntKind.i64.wrap ((a : Int) + 1) = ((a + 1 : Nat) : Int) := by rw [wrap_id (by omega) (by omega)]; rfl
  unfold F51.go wideN
  cases c == 9
  · cases c == 8
    · cases c == 13
      · simp only [cond_false, e5]
      · rfl
    · simp only [cond_false, cond_true, Bool.and_self, Bool.true_and, Bool.and_true, e4]
      by_cases h0 : a = 0
      · subst h0; rfl
      · have : (a : Int) > 0 := by omega
        simp only [this, decide_true, cond_true, Bool.and_self, Bool.true_and, Bool.and_true]
        congr 3
        omega
  · have e6 : IntKind.i64.wrap ((a / 8 : Nat) : Int) = ((a / 8 : Nat) : Int) := wrap_id (by omega) (by omega)
    simp only [cond_true, Bool.and_self, Bool.true_and, Bool.and_true, e2, e6, e3, e1]
def lineA (l : List Int) : AV := .ro false (.I .u8 l)
def linesA : List Int → List (List Int) → List Int → List (List Int) × List Int
  | [], ls, line => (ls, line)
  | c :: r, ls, line => bif c == 10 then linesA r (ls ++ [line]) [] else linesA r ls (line ++ [c])
theorem linesA_F : ∀ (b : List Int) (ls : List (List Int)) (line : List Int), ls ++ (linesF b line).1 = (bif (linesA b ls line).2.isEmpty then (linesA b ls line).1 else (linesA b ls line).1 ++ [(linesA b ls line).2]) ∧ (linesF b line).2 = (linesA b ls line).2.isEmpty
  | [], ls, line => by
    unfold linesF linesA
    cases line <;> simp
  | c :: r, ls, line => by
    unfold linesF linesA
    cases c == 10
    · simp only [cond_false]; exact linesA_F r ls (line ++ [c])
    · simp only [cond_true, Bool.and_self, Bool.true_and, Bool.and_true]
      have := linesA_F r (ls ++ [line]) []
      rw [List.append_assoc] at this
      exact this
theorem F16l (k0 : Nat) (b : List Int) (hb : b.length ≤ 1048576) : ∀ (k i : Nat) (ls : List (List Int)) (line : List Int), i ≤ b.length → b.length - i < k → ls.length ≤ i → line.length ≤ i →
    loopN (fun x => F16.go122 k0 x.fst.fst x.fst.snd.snd.snd.fst x.fst.snd.snd.snd.snd.fst x.fst.snd.snd.snd.snd.snd.fst x.snd.fst.fst x.snd.fst.snd.fst) k
      (((i : Int), (), (), b, !line.isEmpty, (b.length : Int), ()), (line, ls.map lineA, ()), ()) =
    some ((!(linesA (b.drop i) ls line).2.isEmpty, (), (), ()), ((linesA (b.drop i) ls line).2, (linesA (b.drop i) ls line).1.map lineA, ()), ())
  | 0, i, ls, line, _, hk, _, _ => absurd hk (Nat.not_lt_zero _)
  | k + 1, i, ls, line, hi, hk, h1, h2 => by
    rcases Nat.lt_or_ge i b.length with c | c
    · have h0 : (i : Int) < (b.length : Int) := by omega
      have h0' : (0 : Int) ≤ (i : Int) := by omega
      have hw : IntKind.i64.wrap ((i : Int) + 1) = ((i + 1 : Nat) : Int) := by rw [wrap_id (by omega) (by omega)]; rfl
      rw [drop_int c, linesA]
      cases e : b[i] == 10
      · have r0 : (Value.int IntKind.u8 0).cells.size.beq 1 = true := rfl
        have q1 : ((line ++ [b[i]]).length * 1).ble 140737488355328 = true := Nat.ble_eq_true_of_le (by simp; omega)
        have q2 : (line ++ [b[i]]).length.ble 9223372036854775807 = true := Nat.ble_eq_true_of_le (by simp; omega)
        have q1' : ((line ++ [b[i]]).length * 1).ble 140737488355328 = true := q1
        have q2' : (line ++ [b[i]]).length.ble 9223372036854775807 = true := q2
        have ne : (line ++ [b[i]]).isEmpty = false := by cases line <;> rfl
        have s : F16.go122 k0 i b (!line.isEmpty) b.length line (ls.map lineA) = some (.inl ((((i + 1 : Nat) : Int), (), (), b, !(line ++ [b[i]]).isEmpty, (b.length : Int), ()), (line ++ [b[i]], ls.map lineA, ()), ())) := by
          unfold F16.go122
          simp only [h0, h0', decide_true, cond_true, Bool.and_self, Bool.true_and, Bool.and_true, Int.toNat_natCast, Go.Ev.getD_in c, e, cond_false, r0, q1', q2', hw, ne]
          rfl
        exact (loopN_inl s).trans (F16l k0 b hb k (i + 1) ls (line ++ [b[i]]) c (by omega) (by omega) (by simp; omega))
      · have r0 : (Value.slice none 0 0).cells.size.beq 1 = true := rfl
        have e1 : (ls.map lineA ++ [lineA line]).length = ls.length + 1 := by simp
        have q1 : ((ls.map lineA ++ [lineA line]).length * 24).ble 140737488355328 = true := Nat.ble_eq_true_of_le (by rw [e1]; omega)
        have q2 : (ls.map lineA ++ [lineA line]).length.ble 9223372036854775807 = true := Nat.ble_eq_true_of_le (by rw [e1]; omega)
        have q1' : ((ls.map lineA ++ [AV.ro false (Lst.I IntKind.u8 line)]).length * 24).ble 140737488355328 = true := q1
        have q2' : (ls.map lineA ++ [AV.ro false (Lst.I IntKind.u8 line)]).length.ble 9223372036854775807 = true := q2
        have s : F16.go122 k0 i b (!line.isEmpty) b.length line (ls.map lineA) = some (.inl ((((i + 1 : Nat) : Int), (), (), b, !([] : List Int).isEmpty, (b.length : Int), ()), ([], (ls ++ [line]).map lineA, ()), ())) := by
          unfold F16.go122
          simp only [h0, h0', decide_true, cond_true, Bool.and_self, Bool.true_and, Bool.and_true, Int.toNat_natCast, Go.Ev.getD_in c, e, r0, q1', q2', hw]
          rw [List.map_append]
          rfl
        exact (loopN_inl s).trans (F16l k0 b hb k (i + 1) (ls ++ [line]) [] c (by omega) (by simp; omega) (by simp))
    · have : i = b.length := Nat.le_antisymm hi c
      subst this
      refine loopN_inr ?_
      dsimp only
      unfold F16.go122
      simp only [Int.lt_irrefl, decide_false, cond_false, List.drop_length]
      rfl
theorem linesA_len : ∀ (b : List Int) (ls : List (List Int)) (line : List Int), (linesA b ls line).1.length ≤ ls.length + b.length
  | [], ls, line => by simp [linesA]
  | c :: r, ls, line => by
    unfold linesA
    cases c == 10
    · have := linesA_len r ls (line ++ [c]); simp only [cond_false, List.length_cons]; omega
    · have := linesA_len r (ls ++ [line]) []; simp at this; simp only [cond_true, Bool.and_self, Bool.true_and, Bool.and_true, List.length_cons]; omega
theorem F16_eq (k : Nat) (b : List Int) (hb : b.length ≤ 1048576) (hk : b.length < k) : F16.go k b = some ((((), (linesF b []).2, ()), ()), ((linesF b []).1.map lineA, ()), ()) := by
  have L : F16.l_122 k ((0, (), (), b, false, ↑b.length, ()), ([], [], ()), ()) = _ := F16l k b hb k 0 [] [] (Nat.zero_le _) (by omega) (Nat.zero_le _) (Nat.zero_le _)
  rw [List.drop_zero] at L
  have hl := linesA_len b [] []
  obtain ⟨g1, g2⟩ := linesA_F b [] []
  rw [List.nil_append] at g1
  rw [g1, g2]
  unfold F16.go
  rw [L]
  simp only [Option.bind_some]
  cases e : (linesA b [] []).2.isEmpty
  · have r0 : (Value.slice none 0 0).cells.size.beq 1 = true := rfl
    have e1 : ((linesA b [] []).1.map lineA ++ [lineA (linesA b [] []).2]).length = (linesA b [] []).1.length + 1 := by simp
    have q1 : (((linesA b [] []).1.map lineA ++ [lineA (linesA b [] []).2]).length * 24).ble 140737488355328 = true := Nat.ble_eq_true_of_le (by rw [e1]; simp at hl; omega)
    have q2 : ((linesA b [] []).1.map lineA ++ [lineA (linesA b [] []).2]).length.ble 9223372036854775807 = true := Nat.ble_eq_true_of_le (by rw [e1]; simp at hl; omega)
    have q1' : (((linesA b [] []).1.map lineA ++ [AV.ro false (Lst.I IntKind.u8 (linesA b [] []).2)]).length * 24).ble 140737488355328 = true := q1
    have q2' : ((linesA b [] []).1.map lineA ++ [AV.ro false (Lst.I IntKind.u8 (linesA b [] []).2)]).length.ble 9223372036854775807 = true := q2
    simp only [Bool.not_false, cond_true, Bool.and_self, Bool.true_and, Bool.and_true, r0, q1', q2', cond_false]
    rw [List.map_append]
    rfl
  · simp only [Bool.not_true, Bool.not_false, cond_false, cond_true, Bool.and_self, Bool.true_and, Bool.and_true]
end Go.Proofs.Try.S

namespace Go.Proofs.Try.S
open Go Go.Ev
/-! ### loops that count -/
theorem loopN_iter {A B : Type} {f : A → Option (A ⊕ B)} (st : Nat → A) (n : Nat) (y : B) (h : ∀ i, i < n → f (st i) = some (.inl (st (i + 1)))) (hy : f (st n) = some (.inr y)) : ∀ k, n < k → loopN f k (st 0) = some y := by
  have key : ∀ m i k, i + m = n → m < k → loopN f k (st i) = some y := by
    intro m
    induction m with
    | zero =>
      intro i k hi hk
      obtain ⟨k, rfl⟩ : ∃ k', k = k' + 1 := ⟨k - 1, by omega⟩
      have : i = n := by omega
      subst this
      exact loopN_inr hy
    | succ m ih =>
      intro i k hi hk
      obtain ⟨k, rfl⟩ : ∃ k', k = k' + 1 := ⟨k - 1, by omega⟩
      rw [loopN_inl (h i (by omega))]
      exact ih (i + 1) k (by omega) (by omega)
  intro k hk
  exact key n 0 k (by omega) hk
theorem take_succ {α : Type} {l : List α} {i : Nat} (h : i < l.length) : l.take (i + 1) = l.take i ++ [l[i]] := by
  rw [List.take_add_one, List.getElem?_eq_getElem h]; rfl
abbrev big : Nat := 140737488351232
theorem bleB {n : Nat} (h : n ≤ big) : (Nat.ble (n * 1) 140737488355328 && Nat.ble n 9223372036854775807) = true := by
  have h : n ≤ 140737488351232 := h
  rw [Nat.ble_eq_true_of_le (by omega), Nat.ble_eq_true_of_le (by omega)]; rfl
theorem lt_dec {i n : Nat} (h : i < n) : decide ((i : Int) < (n : Int)) = true := decide_eq_true (by omega)
theorem lt_dec' {n : Nat} : decide ((n : Int) < (n : Int)) = false := decide_eq_false (by omega)
theorem dec0 (p : Nat) : decide ((0 : Int) ≤ (p : Int)) = true := decide_eq_true (by omega)
theorem wadd (a b : Nat) (h : a + b ≤ big) : IntKind.i64.wrap ((a : Int) + (b : Int)) = ((a + b : Nat) : Int) := by
  have h' : a + b ≤ 140737488351232 := h
  rw [wrap_id (by omega) (by omega)]; omega
theorem wz (n : Nat) (h : n ≤ big) : IntKind.i64.wrap (n : Int) = (n : Int) := by
  have h' : n ≤ 140737488351232 := h
  rw [wrap_id (by omega) (by omega)]
theorem wadd1 (a : Nat) (h : a < big) : IntKind.i64.wrap ((a : Int) + 1) = ((a + 1 : Nat) : Int) := by
  have h' : a < 140737488351232 := h
  rw [wrap_id (by omega) (by omega)]; omega
theorem wsub (a b : Nat) (h : b ≤ a) (ha : a ≤ big) : IntKind.i64.wrap ((a : Int) - (b : Int)) = ((a - b : Nat) : Int) := by
  have h' : a ≤ 140737488351232 := ha
  rw [wrap_id (by omega) (by omega)]; omega
/-! ### bytes.Repeat of one byte -/
theorem and_mask (n : Nat) (h : n < 4294967296) : (BitVec.ofInt 64 (n : Int) &&& BitVec.ofInt 64 4294967295).toNat = n := by
  rw [BitVec.toNat_and]
  have h1 : (BitVec.ofInt 64 (n : Int)).toNat = n := by
    rw [BitVec.toNat_ofInt]
    show ((n : Int) % ((2 ^ 64 : Nat) : Int)).toNat = n
    omega
  have h2 : (BitVec.ofInt 64 4294967295).toNat = 2 ^ 32 - 1 := rfl
  rw [h1, h2, Nat.and_two_pow_sub_one_eq_mod]
  omega
theorem wu (n : Nat) (h : n < 4294967296) : IntKind.u64.wrap (n : Int) = (n : Int) := by
  unfold IntKind.wrap
  simp [IntKind.bits, IntKind.signed]
  omega
theorem F97_eq (k n : Nat) (h : n < 4294967296) : F97.go k 1 (n : Int) = some (((0, (n : Int), ()), ()), (), ()) := by
  have f1 : Int.fdiv 1 4294967296 = 0 := rfl
  have f2 : Int.fdiv (n : Int) 4294967296 = 0 := by
    rw [Int.fdiv_eq_ediv_of_nonneg _ (by omega)]; omega
  have m1 : (BitVec.ofInt 64 1 &&& BitVec.ofInt 64 4294967295).toNat = 1 := rfl
  have m2 := and_mask n h
  have w0 : IntKind.u64.wrap 0 = 0 := rfl
  have wn := wu n h
  have m0 : (BitVec.ofInt 64 0 &&& BitVec.ofInt 64 4294967295).toNat = 0 := rfl
  have f0 : Int.fdiv 0 4294967296 = 0 := rfl
  have w1 : IntKind.u64.wrap 1 = 1 := rfl
  have c1 : ((1 : Nat) : Int) = 1 := rfl
  have c0 : ((0 : Nat) : Int) = 0 := rfl
  unfold F97.go F101.go
  simp only [f1, f2, m1, m2, wn, w0, w1, c1, Int.one_mul, Int.zero_mul, Int.mul_zero, Int.add_zero, Int.zero_add, f0, m0, c0, Option.bind_some]
theorem F91_eq (k n : Nat) (x : Int) (h : n ≤ 2000000000) (hk : n + 1 < k) : F91.go k [x] (n : Int) = some (.inl (((0, n), ()), (List.replicate n x, ()), ())) := by
  have hl : (([x] : List Int).length : Int) = 1 := rfl
  by_cases h0 : n = 0
  · subst h0; rfl
  · have d1 : (((n : Nat) : Int) == 0) = false := by rw [beq_eq_false_iff_ne]; omega
    have d2 : decide ((n : Int) < 0) = false := decide_eq_false (by omega)
    have w1 : IntKind.u64.wrap 1 = 1 := rfl
    have w2 := wu n (by omega)
    have d3 : decide ((0 : Int) > 0) = false := rfl
    have d4 : decide ((n : Int) > 9223372036854775807) = false := decide_eq_false (by omega)
    have w3 := wz n (by show _ ≤ 140737488351232; omega)
    have e1 : ((1 : Int) == 0) = false := rfl
    have run : ∀ cm : Int, 1 ≤ cm → F91.l_1023 k ((cm, (n : Int), [x], ()), (), ()) = some (((0, n), ()), (List.replicate n x, ()), ()) := by
      intro cm hcm
      have g1 : decide ((1 : Int) ≤ (n : Int)) = true := decide_eq_true (by omega)
      have g2 : decide ((n : Int) ≤ 281474976710656) = true := decide_eq_true (by omega)
      have g3 : decide ((1 : Int) ≤ cm) = true := decide_eq_true hcm
      have g4 : Nat.ble (n + 1) k = true := Nat.ble_eq_true_of_le (by omega)
      unfold F91.l_1023
      simp only [g1, g2, g3, Int.toNat_natCast, g4, Bool.true_and]
      rfl
    unfold F91.go
    simp only [d1, d2, cond_false, hl, w1, w2, F97_eq k n (by omega), Option.bind_some, d3, d4]
    unfold F91.go63
    simp only [hl, e1, cond_false, w3]
    by_cases hb : 8192 < n
    · have d5 : decide ((n : Int) > 8192) = true := decide_eq_true (by omega)
      have t1 : Int.tdiv 8192 1 = 8192 := rfl
      have w4 : IntKind.i64.wrap (IntKind.i64.wrap 8192 * 1) = 8192 := rfl
      have e2 : ((8192 : Int) == 0) = false := rfl
      simp only [d5, cond_true, t1, w4, e2, cond_false, run 8192 (by omega), Option.bind_some]
    · have d5 : decide ((n : Int) > 8192) = false := decide_eq_false (by omega)
      simp only [d5, cond_false, run (n : Int) (by omega), Option.bind_some]
theorem F70_eq (k n : Nat) (h : n ≤ 2000000000) (hk : n + 1 < k) : F70.go k (n : Int) = some (.inl (((), ()), (List.replicate n 32, ()), ())) := by
  have hs : ((({ data := { toList := [] : Array UInt8 } : ByteArray } : ByteArray).size : Nat) : Int) = 0 := rfl
  have hb : bytesOf ({ data := { toList := [] : Array UInt8 } : ByteArray }) = [] := rfl
  have w1 : IntKind.i64.wrap ((n : Int) - 0) = (n : Int) := by rw [Int.sub_zero]; exact wz n (by show _ ≤ 140737488351232; omega)
  have d1 : decide ((n : Int) < 0) = false := decide_eq_false (by omega)
  have b1 := bleB (n := (List.replicate n (32 : Int)).length) (by rw [List.length_replicate]; show _ ≤ 140737488351232; omega)
  have t1 : List.take n (List.drop 0 (List.replicate n (32 : Int))) = List.replicate n 32 := by rw [List.drop_zero, List.take_of_length_le (by rw [List.length_replicate]; omega)]
  unfold F70.go F83.go
  simp only [hs, w1, d1, cond_false, F91_eq k n 32 h hk, Option.bind_some, Sum.elim_inl, hb, List.append_nil, t1, b1, cond_true]
theorem F72_eq (k n : Nat) (h : n ≤ 2000000000) (hk : n < k) : F72.go k (n : Int) = some (((), ()), (List.replicate n 32, ()), ()) := by
  have loop := loopN_iter (f := F72.s58 k) (fun i => (((i : Int), (), (n : Int), ()), (List.replicate i 32, ()), ())) n (((), ()), (List.replicate n 32, ()), ()) (fun i hi => ?_) ?_ k hk
  · have e0 : ((0 : Nat) : Int) = 0 := rfl
    simp only [e0, List.replicate_zero] at loop
    unfold F72.go F72.l_58
    rw [loop]; rfl
  · have b1 := bleB (n := (List.replicate i (32 : Int) ++ [32]).length) (by rw [List.length_append, List.length_replicate, List.length_singleton]; show _ ≤ 140737488351232; omega)
    simp only [F72.s58, F72.go58, lt_dec hi, cond_true, b1, wadd1 i (by show _ < 140737488351232; omega)]
    rw [← List.replicate_succ']
  · simp only [F72.s58, F72.go58, lt_dec', cond_false]
end Go.Proofs.Try.S

namespace Go.Proofs.Try.S
open Go Go.Ev
theorem gD {l : List Int} {i : Nat} (h : i < l.length) : l.getD i 0 = l[i] := Go.Ev.getD_in h
/-! ### stops -/
def okAt (l : List Int) (i : Nat) : Bool := !decide (l.getD i 0 < 1) && (Nat.beq i 0 || !decide (l.getD i 0 ≤ l.getD (i - 1) 0))
def vF (l : List Int) : Nat → Nat → Bool
  | 0, _ => true
  | m + 1, i => okAt l i && vF l m (i + 1)
theorem wpred (i : Nat) (h : i < big) : IntKind.i64.wrap (((i + 1 : Nat) : Int) - 1) = (i : Int) := by
  have h' : i < 140737488351232 := h
  rw [wrap_id (by omega) (by omega)]; omega
theorem F37_loop (k : Nat) (l : List Int) (hl : l.length ≤ 1048576) : ∀ (m i fu : Nat), i + m = l.length → m < fu →
    loopN (F37.s26 k) fu (((i : Int), l, l, (l.length : Int), ()), (), ()) = some (bif vF l m i then .inr ((), (), ()) else .inl ((false, ()), (), ())) := by
  intro m
  induction m with
  | zero =>
    intro i fu hi hf
    obtain ⟨fu, rfl⟩ : ∃ f', fu = f' + 1 := ⟨fu - 1, by omega⟩
    have hie : i = l.length := by omega
    subst hie
    refine loopN_inr ?_
    simp only [F37.s26, F37.go26, lt_dec', cond_false]; rfl
  | succ m ih =>
    intro i fu hi hf
    obtain ⟨fu, rfl⟩ : ∃ f', fu = f' + 1 := ⟨fu - 1, by omega⟩
    have hil : i < l.length := by omega
    have w1 := wadd1 i (by show _ < 140737488351232; omega)
    have ih' := ih (i + 1) fu (by omega) (by omega)
    rw [vF]
    unfold okAt
    cases h1 : decide (l.getD i 0 < 1)
    · cases i with
      | zero =>
        rw [loopN_inl (x' := ((((0 + 1 : Nat) : Int), l, l, (l.length : Int), ()), (), ()))]
        · rw [ih']; rfl
        · have d3 : decide (((0 : Nat) : Int) > 0) = false := rfl
          simp only [F37.s26, F37.go26, lt_dec hil, dec0, Bool.true_and, cond_true, Int.toNat_natCast, h1, cond_false, d3, w1]
      | succ j =>
        have d3 : decide (((j + 1 : Nat) : Int) > 0) = true := decide_eq_true (by omega)
        have wp := wpred j (by show _ < 140737488351232; omega)
        have hj : j < l.length := by omega
        have hn : Nat.beq (j + 1) 0 = false := rfl
        rw [hn, Nat.add_sub_cancel]
        cases h2 : decide (l.getD (j + 1) 0 ≤ l.getD j 0)
        · rw [loopN_inl (x' := ((((j + 1 + 1 : Nat) : Int), l, l, (l.length : Int), ()), (), ()))]
          · rw [ih']; rfl
          · simp only [F37.s26, F37.go26, lt_dec hil, lt_dec hj, dec0, Bool.true_and, cond_true, Int.toNat_natCast, h1, cond_false, d3, wp, h2, w1]
        · refine loopN_inr ?_
          simp only [F37.s26, F37.go26, lt_dec hil, lt_dec hj, dec0, Bool.true_and, cond_true, Int.toNat_natCast, h1, cond_false, d3, wp, h2]
          rfl
    · refine loopN_inr ?_
      simp only [F37.s26, F37.go26, lt_dec hil, dec0, Bool.true_and, cond_true, Int.toNat_natCast, h1]
      rfl
def vS (l : List Int) : Bool := vF l l.length 0
theorem F37_eq (k : Nat) (l : List Int) (hl : l.length ≤ 1048576) (hk : l.length < k) : F37.go k l = some ((vS l, ()), (), ()) := by
  have := F37_loop k l hl l.length 0 k (by omega) hk
  have e0 : ((0 : Nat) : Int) = 0 := rfl
  rw [e0] at this
  unfold F37.go F37.l_26 vS
  rw [this, Option.bind_some]
  cases vF l l.length 0 <;> rfl
theorem F67_loop (k : Nat) (l : List Int) (hl : l.length ≤ 1048576) : ∀ (m i fu : Nat), i + m = l.length → m < fu →
    loopN (F67.s58 k) fu (((i : Int), l, l, (l.length : Int), ()), (), ()) = some (bif vF l m i then .inr ((l, ()), (), ()) else .inl (((), 22, ()), (), ())) := by
  intro m
  induction m with
  | zero =>
    intro i fu hi hf
    obtain ⟨fu, rfl⟩ : ∃ f', fu = f' + 1 := ⟨fu - 1, by omega⟩
    have hie : i = l.length := by omega
    subst hie
    refine loopN_inr ?_
    simp only [F67.s58, F67.go58, lt_dec', cond_false]; rfl
  | succ m ih =>
    intro i fu hi hf
    obtain ⟨fu, rfl⟩ : ∃ f', fu = f' + 1 := ⟨fu - 1, by omega⟩
    have hil : i < l.length := by omega
    have w1 := wadd1 i (by show _ < 140737488351232; omega)
    have ih' := ih (i + 1) fu (by omega) (by omega)
    rw [vF]
    unfold okAt
    cases h1 : decide (l.getD i 0 < 1)
    · cases i with
      | zero =>
        rw [loopN_inl (x' := ((((0 + 1 : Nat) : Int), l, l, (l.length : Int), ()), (), ()))]
        · rw [ih']; rfl
        · have d3 : decide (((0 : Nat) : Int) > 0) = false := rfl
          simp only [F67.s58, F67.go58, lt_dec hil, dec0, Bool.true_and, cond_true, Int.toNat_natCast, h1, cond_false, d3, w1]
      | succ j =>
        have d3 : decide (((j + 1 : Nat) : Int) > 0) = true := decide_eq_true (by omega)
        have wp := wpred j (by show _ < 140737488351232; omega)
        have hj : j < l.length := by omega
        have hn : Nat.beq (j + 1) 0 = false := rfl
        rw [hn, Nat.add_sub_cancel]
        cases h2 : decide (l.getD (j + 1) 0 ≤ l.getD j 0)
        · rw [loopN_inl (x' := ((((j + 1 + 1 : Nat) : Int), l, l, (l.length : Int), ()), (), ()))]
          · rw [ih']; rfl
          · simp only [F67.s58, F67.go58, lt_dec hil, lt_dec hj, dec0, Bool.true_and, cond_true, Int.toNat_natCast, h1, cond_false, d3, wp, h2, w1]
        · refine loopN_inr ?_
          simp only [F67.s58, F67.go58, lt_dec hil, lt_dec hj, dec0, Bool.true_and, cond_true, Int.toNat_natCast, h1, cond_false, d3, wp, h2]
          rfl
    · refine loopN_inr ?_
      simp only [F67.s58, F67.go58, lt_dec hil, dec0, Bool.true_and, cond_true, Int.toNat_natCast, h1]
      rfl
theorem F67_nil (k : Nat) : F67.go k [] = some (.inl ((((), 0, ()), ()), ([8], ()), ())) := rfl
theorem F67_eq (k : Nat) (l : List Int) (h0 : l ≠ []) (hl : l.length ≤ 1048576) (hk : l.length < k) : F67.go k l = some (bif vS l then .inr (.inr (((l, 0, ()), ()), (), ())) else .inr (.inl ((((), 22, ()), ()), (), ()))) := by
  have := F67_loop k l hl l.length 0 k (by omega) hk
  have e0 : ((0 : Nat) : Int) = 0 := rfl
  have e1 : (((l.length : Nat) : Int) == 0) = false := by
    rw [beq_eq_false_iff_ne]
    have := List.length_pos_iff.2 h0
    omega
  rw [e0] at this
  unfold F67.go F67.l_58 vS
  rw [this, Option.bind_some, e1, cond_false]
  cases vF l l.length 0 <;> rfl
theorem vF_pos (l : List Int) : ∀ m i, vF l m i = true → ∀ j, i ≤ j → j < i + m → 1 ≤ l.getD j 0
  | 0, i, _, j, h1, h2 => by omega
  | m + 1, i, h, j, h1, h2 => by
    rw [vF, Bool.and_eq_true] at h
    by_cases e : j = i
    · subst e
      have := h.1
      unfold okAt at this
      rw [Bool.and_eq_true, Bool.not_eq_true', decide_eq_false_iff_not] at this
      omega
    · exact vF_pos l m (i + 1) h.2 j (by omega) (by omega)
def bigS (l : List Int) : Bool := l.any fun x => decide (x > 1000)
theorem F36_eq (k : Nat) (l : List Int) (hl : l.length ≤ 1048576) (hk : l.length < k) : F36.go k l = some ((bigS l, ()), (), ()) := by
  have loop : ∀ (m i fu : Nat), i + m = l.length → m < fu → loopN (F36.s26 k) fu (((i : Int), l, (l.length : Int), ()), (), ()) = some (bif bigS (l.drop i) then .inl ((true, ()), (), ()) else .inr ((), (), ())) := by
    intro m
    induction m with
    | zero =>
      intro i fu hi hf
      obtain ⟨fu, rfl⟩ : ∃ f', fu = f' + 1 := ⟨fu - 1, by omega⟩
      have hie : i = l.length := by omega
      subst hie
      refine loopN_inr ?_
      simp only [F36.s26, F36.go26, lt_dec', cond_false, List.drop_length]; rfl
    | succ m ih =>
      intro i fu hi hf
      obtain ⟨fu, rfl⟩ : ∃ f', fu = f' + 1 := ⟨fu - 1, by omega⟩
      have hil : i < l.length := by omega
      have w1 := wadd1 i (by show _ < 140737488351232; omega)
      have hd := drop_int hil
      have e : bigS (l.drop i) = (decide (l[i] > 1000) || bigS (l.drop (i + 1))) := by rw [hd]; rfl
      cases h1 : decide (l[i] > 1000)
      · rw [loopN_inl (x' := ((((i + 1 : Nat) : Int), l, (l.length : Int), ()), (), ()))]
        · rw [ih (i + 1) fu (by omega) (by omega), e, h1]; rfl
        · simp only [F36.s26, F36.go26, lt_dec hil, dec0, Bool.true_and, cond_true, Int.toNat_natCast, gD hil, h1, cond_false, w1]
      · refine loopN_inr ?_
        rw [e, h1]
        simp only [F36.s26, F36.go26, lt_dec hil, dec0, Bool.true_and, cond_true, Int.toNat_natCast, gD hil, h1, Bool.true_or]
  have := loop l.length 0 k (by omega) hk
  have e0 : ((0 : Nat) : Int) = 0 := rfl
  rw [e0, List.drop_zero] at this
  unfold F36.go F36.l_26
  rw [this, Option.bind_some]
  cases bigS l <;> rfl
/-! ### the next stop -/
def stG (st : List Int) : Prop := ∀ x ∈ st, 1 ≤ x ∧ x ≤ 1000
theorem stG_of {st : List Int} (h1 : vS st = true) (h2 : bigS st = false) : stG st := by
  intro x hx
  obtain ⟨i, hi, e⟩ := List.getElem_of_mem hx
  have h3 := vF_pos st st.length 0 h1 i (Nat.zero_le _) (by omega)
  rw [gD hi, e] at h3
  refine ⟨h3, ?_⟩
  have h4 := (List.any_eq_false.1 h2) x hx
  rw [decide_eq_true_eq] at h4
  omega
def firstG (at_ : Nat) (l : List Int) : Option Int := l.find? fun x => decide (x > (at_ : Int))
def nx (st : List Int) (at_ : Nat) : Option Nat :=
  match st with
  | [] => some ((at_ / 8 + 1) * 8)
  | [x] => some ((at_ / x.toNat + 1) * x.toNat)
  | x :: y :: r => (firstG at_ (x :: y :: r)).map Int.toNat
def tabN (st : List Int) (at_ : Nat) : Nat := (nx st at_).getD (at_ + 1)
theorem firstG_ok {at_ : Nat} {l : List Int} {x : Int} (h : firstG at_ l = some x) : x ∈ l ∧ (at_ : Int) < x := by
  unfold firstG at h
  exact ⟨List.mem_of_find?_eq_some h, by have := List.find?_some h; simpa using this⟩
theorem nx_ok {st : List Int} (hs : stG st) {at_ v : Nat} (h : nx st at_ = some v) : at_ < v ∧ v ≤ at_ + 1000 := by
  match st, hs, h with
  | [], hs, h =>
    injection h with h; subst h
    omega
  | [x], hs, h =>
    injection h with h
    have hx := hs x (List.mem_singleton.2 rfl)
    obtain ⟨n, hn⟩ : ∃ n : Nat, x = (n : Int) := ⟨x.toNat, by omega⟩
    subst hn
    rw [Int.toNat_natCast, Nat.add_mul, Nat.one_mul] at h
    have h1 := Nat.div_add_mod at_ n
    have h2 := Nat.mod_lt at_ (show 0 < n by omega)
    have h3 : at_ / n * n = n * (at_ / n) := Nat.mul_comm _ _
    omega
  | x :: y :: r, hs, h =>
    simp only [nx] at h
    cases hf : firstG at_ (x :: y :: r) with
    | none => rw [hf] at h; cases h
    | some z =>
      rw [hf] at h
      injection h with h
      obtain ⟨h1, h2⟩ := firstG_ok hf
      have := hs z h1
      omega
theorem tabN_ok {st : List Int} (hs : stG st) (at_ : Nat) : at_ < tabN st at_ ∧ tabN st at_ ≤ at_ + 1000 := by
  unfold tabN
  cases h : nx st at_ with
  | none => exact ⟨Nat.lt_succ_self _, by show at_ + 1 ≤ _; omega⟩
  | some v => exact nx_ok hs h
def outN (at_ : Nat) : Option Nat → Int × Bool
  | some v => ((v : Int), true)
  | none => (((at_ + 1 : Nat) : Int), false)
theorem F69_loop (k at_ : Nat) (l : List Int) (hl : l.length ≤ 1048576) : ∀ (m i fu : Nat), i + m = l.length → m < fu →
    loopN (F69.s58 k) fu (((i : Int), (at_ : Int), l, (l.length : Int), ()), (), ()) = some (match firstG at_ (l.drop i) with | some x => .inl ((x, true, ()), (), ()) | none => .inr (((at_ : Int), ()), (), ())) := by
  intro m
  induction m with
  | zero =>
    intro i fu hi hf
    obtain ⟨fu, rfl⟩ : ∃ f', fu = f' + 1 := ⟨fu - 1, by omega⟩
    have hie : i = l.length := by omega
    subst hie
    refine loopN_inr ?_
    simp only [F69.s58, F69.go58, lt_dec', cond_false, List.drop_length]; rfl
  | succ m ih =>
    intro i fu hi hf
    obtain ⟨fu, rfl⟩ : ∃ f', fu = f' + 1 := ⟨fu - 1, by omega⟩
    have hil : i < l.length := by omega
    have w1 := wadd1 i (by show _ < 140737488351232; omega)
    have hd := drop_int hil
    have e : firstG at_ (l.drop i) = (bif decide (l[i] > (at_ : Int)) then some l[i] else firstG at_ (l.drop (i + 1))) := by
      rw [hd]; unfold firstG; rw [List.find?_cons]; cases decide (l[i] > (at_ : Int)) <;> rfl
    cases h1 : decide (l[i] > (at_ : Int))
    · rw [loopN_inl (x' := ((((i + 1 : Nat) : Int), (at_ : Int), l, (l.length : Int), ()), (), ()))]
      · rw [ih (i + 1) fu (by omega) (by omega), e, h1]; rfl
      · simp only [F69.s58, F69.go58, lt_dec hil, dec0, Bool.true_and, cond_true, Int.toNat_natCast, gD hil, h1, cond_false, w1]
    · refine loopN_inr ?_
      rw [e, h1]
      simp only [F69.s58, F69.go58, lt_dec hil, dec0, Bool.true_and, cond_true, Int.toNat_natCast, gD hil, h1]
theorem F85_loop (k at_ : Nat) (l : List Int) (hl : l.length ≤ 1048576) : ∀ (m i fu : Nat), i + m = l.length → m < fu →
    loopN (F85.s506 k) fu (((i : Int), (at_ : Int), l, (l.length : Int), ()), (), ()) = some (match firstG at_ (l.drop i) with | some x => .inl ((x, true, ()), (), ()) | none => .inr ((), (), ())) := by
  intro m
  induction m with
  | zero =>
    intro i fu hi hf
    obtain ⟨fu, rfl⟩ : ∃ f', fu = f' + 1 := ⟨fu - 1, by omega⟩
    have hie : i = l.length := by omega
    subst hie
    refine loopN_inr ?_
    simp only [F85.s506, F85.go506, lt_dec', cond_false, List.drop_length]; rfl
  | succ m ih =>
    intro i fu hi hf
    obtain ⟨fu, rfl⟩ : ∃ f', fu = f' + 1 := ⟨fu - 1, by omega⟩
    have hil : i < l.length := by omega
    have w1 := wadd1 i (by show _ < 140737488351232; omega)
    have hd := drop_int hil
    have e : firstG at_ (l.drop i) = (bif decide (l[i] > (at_ : Int)) then some l[i] else firstG at_ (l.drop (i + 1))) := by
      rw [hd]; unfold firstG; rw [List.find?_cons]; cases decide (l[i] > (at_ : Int)) <;> rfl
    cases h1 : decide (l[i] > (at_ : Int))
    · rw [loopN_inl (x' := ((((i + 1 : Nat) : Int), (at_ : Int), l, (l.length : Int), ()), (), ()))]
      · rw [ih (i + 1) fu (by omega) (by omega), e, h1]; rfl
      · simp only [F85.s506, F85.go506, lt_dec hil, dec0, Bool.true_and, cond_true, Int.toNat_natCast, gD hil, h1, cond_false, w1]
    · refine loopN_inr ?_
      rw [e, h1]
      simp only [F85.s506, F85.go506, lt_dec hil, dec0, Bool.true_and, cond_true, Int.toNat_natCast, gD hil, h1]
/-- the stops as the program keeps them -/
def own8 (st : List Int) : List Int := bif st.isEmpty then [8] else st
theorem one_next (at_ n : Nat) (h1 : 1 ≤ n) : at_ + n - at_ % n = (at_ / n + 1) * n := by
  have h2 := Nat.div_add_mod at_ n
  have h3 : at_ / n * n = n * (at_ / n) := Nat.mul_comm _ _
  rw [Nat.add_mul, Nat.one_mul]; omega
theorem F69_one (k at_ n : Nat) (h1 : 1 ≤ n) (h2 : n ≤ 1000) (ha : at_ ≤ 2000000000) : F69.go k [(n : Int)] (at_ : Int) = some ((((((at_ / n + 1) * n : Nat) : Int), true, ()), ()), (), ()) := by
  have e0 : ((n : Int) == 0) = false := by rw [beq_eq_false_iff_ne]; omega
  have w1 := wadd at_ n (by show _ ≤ 140737488351232; omega)
  have tm : Int.tmod (at_ : Int) (n : Int) = ((at_ % n : Nat) : Int) := rfl
  have hm := Nat.mod_lt at_ (show 0 < n by omega)
  have w2 := wsub (at_ + n) (at_ % n) (by omega) (by show _ ≤ 140737488351232; omega)
  unfold F69.go
  show (bif ((n : Int) == 0) then none else some (((IntKind.i64.wrap (IntKind.i64.wrap ((at_ : Int) + (n : Int)) - Int.tmod (at_ : Int) (n : Int)), true, ()), ()), (), ())) = _
  rw [e0, cond_false, w1, tm, w2, one_next at_ n h1]
theorem F69_eq (k : Nat) (st : List Int) (hs : stG st) (at_ : Nat) (ha : at_ ≤ 2000000000) (hl : st.length ≤ 1048576) (hk : st.length < k) : F69.go k (own8 st) (at_ : Int) = some ((((outN at_ (nx st at_)).1, (outN at_ (nx st at_)).2, ()), ()), (), ()) := by
  match st, hs, hl, hk with
  | [], hs, hl, hk => exact F69_one k at_ 8 (by omega) (by omega) ha
  | [x], hs, hl, hk =>
    have hx := hs x (List.mem_singleton.2 rfl)
    obtain ⟨n, hn⟩ : ∃ n : Nat, x = (n : Int) := ⟨x.toNat, by omega⟩
    subst hn
    exact F69_one k at_ n (by omega) (by omega) ha
  | x :: y :: r, hs, hl, hk =>
    have loop := F69_loop k at_ (x :: y :: r) hl (x :: y :: r).length 0 k (by omega) hk
    have e0 : ((0 : Nat) : Int) = 0 := rfl
    rw [e0, List.drop_zero] at loop
    have e1 : (((x :: y :: r).length : Int) == 1) = false := by
      rw [beq_eq_false_iff_ne]; simp only [List.length_cons]; omega
    show F69.go k (x :: y :: r) (at_ : Int) = _
    unfold F69.go F69.l_58
    rw [e1, cond_false, loop, Option.bind_some]
    simp only [nx]
    cases hf : firstG at_ (x :: y :: r) with
    | none =>
      have w1 := wadd1 at_ (by show _ < 140737488351232; omega)
      simp only [Sum.elim_inr, w1]; rfl
    | some z =>
      obtain ⟨h1, h2⟩ := firstG_ok hf
      have hz : z = ((z.toNat : Nat) : Int) := by omega
      simp only [Sum.elim_inl]
      show some (((z, true, ()), ()), (), ()) = some (((((z.toNat : Nat) : Int), true, ()), ()), (), ())
      rw [← hz]
def outR (o : Option Nat) : Int × Bool := match o with | some v => ((v : Int), true) | none => (0, false)
theorem F85_eq (k : Nat) (st : List Int) (hs : stG st) (at_ : Nat) (ha : at_ ≤ 2000000000) (hl : st.length ≤ 1048576) (hk : st.length < k) : F85.go k (at_ : Int) st = some ((((outR (nx st at_)).1, (outR (nx st at_)).2, ()), ()), (), ()) := by
  have one : ∀ n : Nat, 1 ≤ n → n ≤ 1000 → IntKind.i64.wrap (IntKind.i64.wrap (IntKind.i64.wrap (Int.tdiv (at_ : Int) (n : Int)) + 1) * (n : Int)) = (((at_ / n + 1) * n : Nat) : Int) := by
    intro n h1 h2
    have t1 : Int.tdiv (at_ : Int) (n : Int) = ((at_ / n : Nat) : Int) := rfl
    have hq : at_ / n ≤ at_ := Nat.div_le_self _ _
    have w1 := wz (at_ / n) (by show _ ≤ 140737488351232; omega)
    have w2 := wadd1 (at_ / n) (by show _ < 140737488351232; omega)
    have hb : (at_ / n + 1) * n ≤ at_ + 1000 := by
      have h3 := Nat.div_mul_le_self at_ n
      rw [Nat.add_mul, Nat.one_mul]; omega
    rw [t1, w1, w2, ← Int.natCast_mul, wz _ (by show _ ≤ 140737488351232; omega)]
  match st, hs, hl, hk with
  | [], hs, hl, hk =>
    have := one 8 (by omega) (by omega)
    unfold F85.go
    show some (((IntKind.i64.wrap (IntKind.i64.wrap (IntKind.i64.wrap (Int.tdiv (at_ : Int) 8) + 1) * 8), true, ()), ()), (), ()) = _
    have e : ((8 : Nat) : Int) = 8 := rfl
    rw [e] at this
    rw [this]; rfl
  | [x], hs, hl, hk =>
    have hx := hs x (List.mem_singleton.2 rfl)
    obtain ⟨n, hn⟩ : ∃ n : Nat, x = (n : Int) := ⟨x.toNat, by omega⟩
    subst hn
    have d1 : decide ((n : Int) > 0) = true := decide_eq_true (by omega)
    have e0 : ((n : Int) == 0) = false := by rw [beq_eq_false_iff_ne]; omega
    unfold F85.go
    show (bif decide ((n : Int) > 0) then bif ((n : Int) == 0) then none else some (((IntKind.i64.wrap (IntKind.i64.wrap (IntKind.i64.wrap (Int.tdiv (at_ : Int) (n : Int)) + 1) * (n : Int)), true, ()), ()), (), ()) else _) = _
    rw [d1, e0, one n (by omega) (by omega)]; rfl
  | x :: y :: r, hs, hl, hk =>
    have loop := F85_loop k at_ (x :: y :: r) hl (x :: y :: r).length 0 k (by omega) hk
    have e0 : ((0 : Nat) : Int) = 0 := rfl
    rw [e0, List.drop_zero] at loop
    have e1 : (((x :: y :: r).length : Int) == 1) = false := by
      rw [beq_eq_false_iff_ne]; simp only [List.length_cons]; omega
    have e2 : (((x :: y :: r).length : Int) == 0) = false := by
      rw [beq_eq_false_iff_ne]; simp only [List.length_cons]; omega
    unfold F85.go F85.go63 F85.l_506
    rw [e1, e2, cond_false, cond_false, loop, Option.bind_some]
    simp only [nx]
    cases hf : firstG at_ (x :: y :: r) with
    | none => rfl
    | some z =>
      obtain ⟨h1, h2⟩ := firstG_ok hf
      have hz : z = ((z.toNat : Nat) : Int) := by omega
      simp only [Sum.elim_inl, Option.bind_some]
      show some (((z, true, ()), ()), (), ()) = some (((((z.toNat : Nat) : Int), true, ()), ()), (), ())
      rw [← hz]
theorem F84_eq (k : Nat) (st : List Int) (hs : stG st) (at_ : Nat) (ha : at_ ≤ 2000000000) (hl : st.length ≤ 1048576) (hk : st.length < k) : F84.go k (at_ : Int) st = some ((((tabN st at_ : Nat) : Int), ()), (), ()) := by
  unfold F84.go tabN
  rw [F85_eq k st hs at_ ha hl hk, Option.bind_some]
  cases nx st at_ with
  | none => simp only [outR, cond_false, wadd1 at_ (by show _ < 140737488351232; omega)]; rfl
  | some v => rfl
theorem outN_tab (st : List Int) (at_ : Nat) : (outN at_ (nx st at_)).1 = ((tabN st at_ : Nat) : Int) := by
  unfold tabN
  cases nx st at_ <;> rfl
end Go.Proofs.Try.S

namespace Go.Proofs.Try.S
open Go Go.Ev
/-! ### expand -/
def stN (st : List Int) (at_ : Nat) (c : Int) : Nat := bif c == 9 then tabN st at_ else bif c == 10 then 0 else wideN at_ c
def ex (st : List Int) (at_ : Nat) (c : Int) : List Int := bif c == 9 then List.replicate (tabN st at_ - at_) 32 else [c]
def expS (st : List Int) : Nat → List Int → List Int
  | _, [] => []
  | a, c :: r => ex st a c ++ expS st (stN st a c) r
theorem wide1 (a : Nat) (c : Int) (h : (c == 9) = false) : wideN a c ≤ a + 1 := by
  unfold wideN
  rw [h, cond_false]
  cases c == 8 <;> cases c == 13 <;> simp only [cond_true, cond_false] <;> omega
theorem stN_le {st : List Int} (hs : stG st) (a : Nat) (c : Int) : stN st a c ≤ a + 1000 := by
  unfold stN
  cases h : c == 9
  · have := wide1 a c h
    cases c == 10 <;> simp only [cond_true, cond_false] <;> omega
  · exact (tabN_ok hs a).2
theorem ex_le {st : List Int} (hs : stG st) (a : Nat) (c : Int) : (ex st a c).length ≤ 1000 := by
  unfold ex
  cases c == 9
  · show 1 ≤ 1000; omega
  · have := tabN_ok hs a
    rw [cond_true, List.length_replicate]; omega
theorem F68_eq (k a : Nat) (c : Int) (h : (c == 9) = false) (ha : a ≤ 2000000000) : F68.go k (a : Int) c = some (((((bif c == 10 then 0 else wideN a c) : Nat) : Int), ()), (), ()) := by
  unfold F68.go
  cases c == 10
  · rw [h, cond_false, cond_false, F46_eq k a c ha]; rfl
  · rfl
theorem F71_eq (k : Nat) (st : List Int) (hs : stG st) (a : Nat) (c : Int) (ha : a ≤ 2000000000) (hl : st.length ≤ 1048576) (hk : st.length < k) : F71.go k (a : Int) c st = some (((((bif c == 9 then tabN st a else wideN a c) : Nat) : Int), ()), (), ()) := by
  unfold F71.go
  cases h : c == 9
  · rw [cond_false, F51_eq k a c ha]; rfl
  · rw [cond_true, F84_eq k st hs a ha hl hk]; rfl
theorem F38_loop (k : Nat) (st b : List Int) (hs : stG st) (hb : b.length ≤ 1048576) (hl : st.length ≤ 1048576) (hk : st.length < k) (hk2 : 2000 < k) :
    ∀ (m i a : Nat) (acc : List Int) (fu : Nat), i + m = b.length → a ≤ 1000 * i → acc.length ≤ 1000 * i → m < fu →
      loopN (F38.s506 k) fu (((i : Int), (a : Int), (), own8 st, b, (b.length : Int), ()), (acc, ()), ()) = some (.inr (((), ()), (acc ++ expS st a (b.drop i), ()), ())) := by
  intro m
  induction m with
  | zero =>
    intro i a acc fu hi ha hacc hf
    obtain ⟨fu, rfl⟩ : ∃ f', fu = f' + 1 := ⟨fu - 1, by omega⟩
    have hie : i = b.length := by omega
    subst hie
    refine loopN_inr ?_
    simp only [F38.s506, F38.go506, lt_dec', cond_false, List.drop_length]
    simp [expS]
  | succ m ih =>
    intro i a acc fu hi ha hacc hf
    obtain ⟨fu, rfl⟩ : ∃ f', fu = f' + 1 := ⟨fu - 1, by omega⟩
    have hil : i < b.length := by omega
    have w1 := wadd1 i (by show _ < 140737488351232; omega)
    have hd := drop_int hil
    have hst := stN_le hs a b[i]
    have hex := ex_le hs a b[i]
    have hnext := ih (i + 1) (stN st a b[i]) (acc ++ ex st a b[i]) fu (by omega) (by omega) (by rw [List.length_append]; omega) (by omega)
    rw [loopN_inl (x' := ((((i + 1 : Nat) : Int), ((stN st a b[i] : Nat) : Int), (), own8 st, b, (b.length : Int), ()), (acc ++ ex st a b[i], ()), ()))]
    · rw [hnext, hd, expS, List.append_assoc]
    · have ha2 : a ≤ 2000000000 := by omega
      cases h9 : b[i] == 9
      · have hne : (b[i] != 9) = true := by unfold bne; rw [h9]; rfl
        have b1 := bleB (n := (acc ++ [b[i]]).length) (by rw [List.length_append, List.length_singleton]; show _ ≤ 140737488351232; omega)
        have e1 : stN st a b[i] = (bif b[i] == 10 then 0 else wideN a b[i]) := by unfold stN; rw [h9]; rfl
        have e2 : ex st a b[i] = [b[i]] := by unfold ex; rw [h9]; rfl
        rw [e1, e2]
        simp only [F38.s506, F38.go506, lt_dec hil, dec0, Bool.true_and, cond_true, Int.toNat_natCast, gD hil, hne, b1, F68_eq k a b[i] h9 ha2, Option.bind_some, w1]
      · have hne : (b[i] != 9) = false := by unfold bne; rw [h9]; rfl
        have ht := tabN_ok hs a
        have e1 : stN st a b[i] = tabN st a := by unfold stN; rw [h9]; rfl
        have e2 : ex st a b[i] = List.replicate (tabN st a - a) 32 := by unfold ex; rw [h9]; rfl
        have w2 := wsub (tabN st a) a (by omega) (by show _ ≤ 140737488351232; omega)
        have f70 := F70_eq k (tabN st a - a) (by omega) (by omega)
        have b1 := bleB (n := (acc ++ List.replicate (tabN st a - a) (32 : Int)).length) (by rw [List.length_append, List.length_replicate]; show _ ≤ 140737488351232; omega)
        rw [e1, e2]
        simp only [F38.s506, F38.go506, lt_dec hil, dec0, Bool.true_and, cond_true, Int.toNat_natCast, gD hil, hne, cond_false, F69_eq k st hs a ha2 hl hk, Option.bind_some, outN_tab, w2, f70, Sum.elim_inl, b1, w1]
theorem F38_good (k : Nat) (st b : List Int) (hs : stG st) (hv : vS st = true) (hb : b.length ≤ 1048576) (hl : st.length ≤ 1048576) (hk : st.length < k) (hk2 : 2000 < k) (hk3 : b.length < k) : F38.go k b st = some (.inr (.inl ((((), 0, ()), ()), (expS st 0 b, ()), ()))) := by
  have loop := F38_loop k st b hs hb hl hk hk2 b.length 0 0 [] k (by omega) (Nat.zero_le _) (Nat.zero_le _) hk3
  have e0 : ((0 : Nat) : Int) = 0 := rfl
  rw [e0, List.drop_zero, List.nil_append] at loop
  unfold F38.go F38.l_506
  by_cases h0 : st = []
  · subst h0
    have loop' : loopN (F38.s506 k) k ((0, 0, (), [8], b, (b.length : Int), ()), ([], ()), ()) = some (.inr (((), ()), (expS [] 0 b, ()), ())) := loop
    rw [F67_nil]
    simp only [Option.bind_some, Sum.elim_inl, bne_self_eq_false, cond_false, loop', Sum.elim_inr]
  · have e8 : own8 st = st := by unfold own8; cases st with | nil => exact absurd rfl h0 | cons a r => rfl
    rw [e8] at loop
    rw [F67_eq k st h0 hl hk, hv]
    simp only [cond_true, Option.bind_some, Sum.elim_inr, bne_self_eq_false, cond_false, loop]
theorem F38_bad (k : Nat) (st b : List Int) (hv : vS st = false) (hl : st.length ≤ 1048576) (hk : st.length < k) : F38.go k b st = some (.inl ((((), 22, ()), ()), (), ())) := by
  have h0 : st ≠ [] := fun e => by subst e; exact absurd hv (by decide)
  unfold F38.go
  rw [F67_eq k st h0 hl hk, hv]
  simp only [cond_false, Option.bind_some, Sum.elim_inr, Sum.elim_inl]
  rfl
theorem F39_loop (k : Nat) (st b : List Int) (hs : stG st) (hb : b.length ≤ 1048576) (hl : st.length ≤ 1048576) (hk : st.length < k) (hk2 : 2000 < k) :
    ∀ (m i a : Nat) (acc : List Int) (fu : Nat), i + m = b.length → a ≤ 1000 * i → acc.length ≤ 1000 * i → m < fu →
      loopN (F39.s250 k) fu (((i : Int), (a : Int), (), st, b, (b.length : Int), ()), (acc, ()), ()) = some (((), ()), (acc ++ expS st a (b.drop i), ()), ()) := by
  intro m
  induction m with
  | zero =>
    intro i a acc fu hi ha hacc hf
    obtain ⟨fu, rfl⟩ : ∃ f', fu = f' + 1 := ⟨fu - 1, by omega⟩
    have hie : i = b.length := by omega
    subst hie
    refine loopN_inr ?_
    simp only [F39.s250, F39.go250, lt_dec', cond_false, List.drop_length]
    simp [expS]
  | succ m ih =>
    intro i a acc fu hi ha hacc hf
    obtain ⟨fu, rfl⟩ : ∃ f', fu = f' + 1 := ⟨fu - 1, by omega⟩
    have hil : i < b.length := by omega
    have w1 := wadd1 i (by show _ < 140737488351232; omega)
    have hd := drop_int hil
    have hst := stN_le hs a b[i]
    have hex := ex_le hs a b[i]
    have hnext := ih (i + 1) (stN st a b[i]) (acc ++ ex st a b[i]) fu (by omega) (by omega) (by rw [List.length_append]; omega) (by omega)
    rw [loopN_inl (x' := ((((i + 1 : Nat) : Int), ((stN st a b[i] : Nat) : Int), (), st, b, (b.length : Int), ()), (acc ++ ex st a b[i], ()), ()))]
    · rw [hnext, hd, expS, List.append_assoc]
    · have ha2 : a ≤ 2000000000 := by omega
      cases h9 : b[i] == 9
      · have b1 := bleB (n := (acc ++ [b[i]]).length) (by rw [List.length_append, List.length_singleton]; show _ ≤ 140737488351232; omega)
        have e1 : stN st a b[i] = (bif b[i] == 10 then 0 else wideN a b[i]) := by unfold stN; rw [h9]; rfl
        have e2 : ex st a b[i] = [b[i]] := by unfold ex; rw [h9]; rfl
        rw [e1, e2]
        simp only [F39.s250, F39.go250, lt_dec hil, dec0, Bool.true_and, cond_true, Int.toNat_natCast, gD hil, h9, cond_false, F71_eq k st hs a b[i] ha2 hl hk, Option.bind_some, w1, b1]
        cases b[i] == 10 <;> rfl
      · have ht := tabN_ok hs a
        have e1 : stN st a b[i] = tabN st a := by unfold stN; rw [h9]; rfl
        have e2 : ex st a b[i] = List.replicate (tabN st a - a) 32 := by unfold ex; rw [h9]; rfl
        have w2 := wsub (tabN st a) a (by omega) (by show _ ≤ 140737488351232; omega)
        have f72 := F72_eq k (tabN st a - a) (by omega) (by omega)
        have b1 := bleB (n := (acc ++ List.replicate (tabN st a - a) (32 : Int)).length) (by rw [List.length_append, List.length_replicate]; show _ ≤ 140737488351232; omega)
        rw [e1, e2]
        simp only [F39.s250, F39.go250, lt_dec hil, dec0, Bool.true_and, cond_true, Int.toNat_natCast, gD hil, h9, F71_eq k st hs a b[i] ha2 hl hk, Option.bind_some, w2, f72, b1, w1]
theorem F39_good (k : Nat) (st b : List Int) (hs : stG st) (hv : vS st = true) (hb : b.length ≤ 1048576) (hl : st.length ≤ 1048576) (hk : st.length < k) (hk2 : 2000 < k) (hk3 : b.length < k) : F39.go k b st = some (.inr ((((), 0, ()), ()), (expS st 0 b, ()), ())) := by
  have loop := F39_loop k st b hs hb hl hk hk2 b.length 0 0 [] k (by omega) (Nat.zero_le _) (Nat.zero_le _) hk3
  have e0 : ((0 : Nat) : Int) = 0 := rfl
  rw [e0, List.drop_zero, List.nil_append] at loop
  unfold F39.go F39.l_250
  rw [F37_eq k st hl hk, Option.bind_some]
  simp only [hv, Bool.not_true, cond_false, loop, Option.bind_some]
theorem F39_bad (k : Nat) (st b : List Int) (hv : vS st = false) (hl : st.length ≤ 1048576) (hk : st.length < k) : F39.go k b st = some (.inl ((((), 22, ()), ()), (), ())) := by
  unfold F39.go
  rw [F37_eq k st hl hk, Option.bind_some]
  simp only [hv, Bool.not_false, cond_true]
end Go.Proofs.Try.S

namespace Go.Proofs.Try.S
open Go Go.Ev
/-! ### a run of blanks as tabs -/
def runF (st : List Int) : Nat → Nat → Nat → List Int
  | 0, a, to => List.replicate (to - a) 32
  | f + 1, a, to => match nx st a with
    | some x => bif decide (x ≤ to) then 9 :: runF st f x to else List.replicate (to - a) 32
    | none => List.replicate (to - a) 32
theorem runF_len {st : List Int} (hs : stG st) : ∀ f a to, (runF st f a to).length ≤ to - a
  | 0, a, to => by unfold runF; rw [List.length_replicate]; exact Nat.le_refl _
  | f + 1, a, to => by
    unfold runF
    cases h : nx st a with
    | none => simp only [List.length_replicate]; exact Nat.le_refl _
    | some x =>
      have hx := nx_ok hs h
      by_cases hxt : x ≤ to
      · have ih := runF_len hs f x to
        simp only [decide_eq_true hxt, cond_true, List.length_cons]; omega
      · simp only [decide_eq_false hxt, cond_false, List.length_replicate]; exact Nat.le_refl _
def runS (st : List Int) (a to : Nat) : List Int := runF st (to - a) a to
theorem F74_loop (k : Nat) (st : List Int) (hs : stG st) (to : Nat) (ht : to ≤ 2000000000) (hl : st.length ≤ 1048576) (hk : st.length < k) (hk2 : 2000000002 < k) :
    ∀ (f a : Nat) (acc : List Int) (fu : Nat), a ≤ to → to - a ≤ f → acc.length + (to - a) ≤ 2000000000 → f < fu →
      loopN (F74.s14 k) fu (((a : Int), (to : Int), (), own8 st, ()), (acc, ()), ()) = some (.inl (((), ()), (acc ++ runF st f a to, ()), ())) := by
  intro f
  have stop : ∀ (a : Nat) (acc : List Int), a ≤ to → acc.length + (to - a) ≤ 2000000000 → (nx st a = none ∨ ∃ x, nx st a = some x ∧ to < x) → F74.s14 k (((a : Int), (to : Int), (), own8 st, ()), (acc, ()), ()) = some (.inr (.inl (((), ()), (acc ++ List.replicate (to - a) 32, ()), ()))) := by
    intro a acc ha hacc hno
    have w2 := wsub to a ha (by show _ ≤ 140737488351232; omega)
    have f70 := F70_eq k (to - a) (by omega) (by omega)
    have b1 := bleB (n := (acc ++ List.replicate (to - a) (32 : Int)).length) (by rw [List.length_append, List.length_replicate]; show _ ≤ 140737488351232; omega)
    rcases hno with hno | ⟨x, hno, hx⟩
    · simp only [F74.s14, F74.go14, F69_eq k st hs a (by omega) hl hk, Option.bind_some, hno, outN, Bool.not_false, cond_true, w2, f70, Sum.elim_inl, b1]
    · have d1 : decide ((x : Int) > (to : Int)) = true := decide_eq_true (by omega)
      simp only [F74.s14, F74.go14, F69_eq k st hs a (by omega) hl hk, Option.bind_some, hno, outN, Bool.not_true, cond_false, d1, cond_true, w2, f70, Sum.elim_inl, b1]
  induction f with
  | zero =>
    intro a acc fu ha hf hacc hfu
    obtain ⟨fu, rfl⟩ : ∃ f', fu = f' + 1 := ⟨fu - 1, by omega⟩
    refine loopN_inr (stop a acc ha hacc ?_)
    cases h : nx st a with
    | none => exact .inl rfl
    | some x => have := nx_ok hs h; exact .inr ⟨x, rfl, by omega⟩
  | succ f ih =>
    intro a acc fu ha hf hacc hfu
    obtain ⟨fu, rfl⟩ : ∃ f', fu = f' + 1 := ⟨fu - 1, by omega⟩
    rw [runF]
    cases h : nx st a with
    | none => exact loopN_inr (stop a acc ha hacc (.inl h))
    | some x =>
      have hx := nx_ok hs h
      by_cases hxt : x ≤ to
      · have d1 : decide ((x : Int) > (to : Int)) = false := decide_eq_false (by omega)
        have b1 := bleB (n := (acc ++ [(9 : Int)]).length) (by rw [List.length_append, List.length_singleton]; show _ ≤ 140737488351232; omega)
        rw [loopN_inl (x' := (((x : Int), (to : Int), (), own8 st, ()), (acc ++ [9], ()), ()))]
        · rw [ih x (acc ++ [9]) fu hxt (by omega) (by rw [List.length_append, List.length_singleton]; omega) (by omega), List.append_assoc]
          simp only [decide_eq_true hxt, cond_true]; rfl
        · simp only [F74.s14, F74.go14, F69_eq k st hs a (by omega) hl hk, Option.bind_some, h, outN, Bool.not_true, cond_false, d1, b1, cond_true]
      · simp only [decide_eq_false hxt, cond_false]
        exact loopN_inr (stop a acc ha hacc (.inr ⟨x, h, by omega⟩))
theorem F74_eq (k : Nat) (st : List Int) (hs : stG st) (a to : Nat) (ha : a ≤ to) (ht : to ≤ 2000000000) (hl : st.length ≤ 1048576) (hk : st.length < k) (hk2 : 2000000002 < k) : F74.go k (own8 st) (a : Int) (to : Int) = some (.inl (((), ()), (runS st a to, ()), ())) := by
  have := F74_loop k st hs to ht hl hk hk2 (to - a) a [] k ha (Nat.le_refl _) (by simp; omega) (by omega)
  rw [List.nil_append] at this
  unfold F74.go F74.l_14 runS
  rw [this]; rfl
theorem F75_loop (k : Nat) (st : List Int) (hs : stG st) (to : Nat) (ht : to ≤ 2000000000) (hl : st.length ≤ 1048576) (hk : st.length < k) (hk2 : 2000000002 < k) :
    ∀ (f a : Nat) (acc : List Int) (fu : Nat), a ≤ to → to - a ≤ f → acc.length + (to - a) ≤ 2000000000 → f < fu →
      loopN (F75.s14 k) fu (((a : Int), (to : Int), (), st, ()), (acc, ()), ()) = some (((), ()), (acc ++ runF st f a to, ()), ()) := by
  intro f
  have stop : ∀ (a : Nat) (acc : List Int), a ≤ to → acc.length + (to - a) ≤ 2000000000 → (nx st a = none ∨ ∃ x, nx st a = some x ∧ to < x) → F75.s14 k (((a : Int), (to : Int), (), st, ()), (acc, ()), ()) = some (.inr (((), ()), (acc ++ List.replicate (to - a) 32, ()), ())) := by
    intro a acc ha hacc hno
    have w2 := wsub to a ha (by show _ ≤ 140737488351232; omega)
    have f72 := F72_eq k (to - a) (by omega) (by omega)
    have b1 := bleB (n := (acc ++ List.replicate (to - a) (32 : Int)).length) (by rw [List.length_append, List.length_replicate]; show _ ≤ 140737488351232; omega)
    rcases hno with hno | ⟨x, hno, hx⟩
    · simp only [F75.s14, F75.go14, F85_eq k st hs a (by omega) hl hk, Option.bind_some, hno, outR, Bool.not_false, cond_true, w2, f72, b1]
    · have d1 : decide ((x : Int) > (to : Int)) = true := decide_eq_true (by omega)
      simp only [F75.s14, F75.go14, F85_eq k st hs a (by omega) hl hk, Option.bind_some, hno, outR, Bool.not_true, cond_false, d1, cond_true, w2, f72, b1]
  induction f with
  | zero =>
    intro a acc fu ha hf hacc hfu
    obtain ⟨fu, rfl⟩ : ∃ f', fu = f' + 1 := ⟨fu - 1, by omega⟩
    refine loopN_inr (stop a acc ha hacc ?_)
    cases h : nx st a with
    | none => exact .inl rfl
    | some x => have := nx_ok hs h; exact .inr ⟨x, rfl, by omega⟩
  | succ f ih =>
    intro a acc fu ha hf hacc hfu
    obtain ⟨fu, rfl⟩ : ∃ f', fu = f' + 1 := ⟨fu - 1, by omega⟩
    rw [runF]
    cases h : nx st a with
    | none => exact loopN_inr (stop a acc ha hacc (.inl h))
    | some x =>
      have hx := nx_ok hs h
      by_cases hxt : x ≤ to
      · have d1 : decide ((x : Int) > (to : Int)) = false := decide_eq_false (by omega)
        have b1 := bleB (n := (acc ++ [(9 : Int)]).length) (by rw [List.length_append, List.length_singleton]; show _ ≤ 140737488351232; omega)
        rw [loopN_inl (x' := (((x : Int), (to : Int), (), st, ()), (acc ++ [9], ()), ()))]
        · rw [ih x (acc ++ [9]) fu hxt (by omega) (by rw [List.length_append, List.length_singleton]; omega) (by omega), List.append_assoc]
          simp only [decide_eq_true hxt, cond_true]; rfl
        · simp only [F75.s14, F75.go14, F85_eq k st hs a (by omega) hl hk, Option.bind_some, h, outR, Bool.not_true, cond_false, d1, b1, cond_true]
      · simp only [decide_eq_false hxt, cond_false]
        exact loopN_inr (stop a acc ha hacc (.inr ⟨x, h, by omega⟩))
theorem F75_eq (k : Nat) (st : List Int) (hs : stG st) (a to : Nat) (ha : a ≤ to) (ht : to ≤ 2000000000) (hl : st.length ≤ 1048576) (hk : st.length < k) (hk2 : 2000000002 < k) : F75.go k (a : Int) (to : Int) st = some (((), ()), (runS st a to, ()), ()) := by
  have := F75_loop k st hs to ht hl hk hk2 (to - a) a [] k ha (Nat.le_refl _) (by simp; omega) (by omega)
  rw [List.nil_append] at this
  unfold F75.go F75.l_14 runS
  rw [this]; rfl
/-! ### unexpand, over the whole text -/
def blB (c : Int) : Bool := c == 32 || c == 9
def spanB : List Int → Nat
  | [] => 0
  | c :: r => bif blB c then spanB r + 1 else 0
theorem spanB_le : ∀ l, spanB l ≤ l.length
  | [] => Nat.le_refl _
  | c :: r => by
    have := spanB_le r
    unfold spanB
    cases blB c <;> simp only [cond_true, cond_false, List.length_cons] <;> omega
def tb (st : List Int) (a : Nat) (c : Int) : Nat := bif c == 9 then tabN st a else a + 1
def colB (st : List Int) : Nat → List Int → Nat
  | a, [] => a
  | a, c :: r => colB st (tb st a c) r
theorem tb_ok {st : List Int} (hs : stG st) (a : Nat) (c : Int) : a < tb st a c ∧ tb st a c ≤ a + 1000 := by
  unfold tb
  cases c == 9
  · exact ⟨Nat.lt_succ_self _, by show a + 1 ≤ _; omega⟩
  · exact tabN_ok hs a
theorem colB_ok {st : List Int} (hs : stG st) : ∀ (l : List Int) (a : Nat), a + l.length ≤ colB st a l ∧ colB st a l ≤ a + 1000 * l.length
  | [], a => ⟨Nat.le_refl _, Nat.le_refl _⟩
  | c :: r, a => by
    have h1 := tb_ok hs a c
    have h2 := colB_ok hs r (tb st a c)
    rw [colB, List.length_cons]
    omega
def piece (st : List Int) (all first : Bool) (a : Nat) (l : List Int) : List Int := bif !first && (!all || (Nat.beq l.length 1 && l.getD 0 0 == 32)) then l else runS st a (colB st a l)
theorem piece_len {st : List Int} (hs : stG st) (all first : Bool) (a : Nat) (l : List Int) : (piece st all first a l).length ≤ 1000 * l.length := by
  unfold piece
  cases !first && (!all || (Nat.beq l.length 1 && l.getD 0 0 == 32))
  · have h1 := runF_len hs (colB st a l - a) a (colB st a l)
    have h2 := colB_ok hs l a
    show (runS st a (colB st a l)).length ≤ _
    unfold runS; omega
  · show l.length ≤ _; omega
def U (st : List Int) (all : Bool) : Nat → Bool → Nat → List Int → List Int
  | 0, _, _, _ => []
  | _ + 1, _, _, [] => []
  | n + 1, first, a, c :: r => bif c == 10 then 10 :: U st all n true 0 r else bif blB c then
      piece st all first a ((c :: r).take (spanB (c :: r))) ++ U st all n false (colB st a ((c :: r).take (spanB (c :: r)))) ((c :: r).drop (spanB (c :: r))) else c :: U st all n false (wideN a c) r
theorem span_pos {c : Int} {r : List Int} (h : blB c = true) : spanB (c :: r) = spanB r + 1 := by
  show (bif blB c then spanB r + 1 else 0) = _
  rw [h]; rfl
theorem U_fuel (st : List Int) (all : Bool) : ∀ (n m : Nat) (first : Bool) (a : Nat) (l : List Int), l.length ≤ n → l.length ≤ m → U st all n first a l = U st all m first a l
  | 0, 0, first, a, l, _, _ => rfl
  | 0, m + 1, first, a, l, h, _ => by
    have : l = [] := List.length_eq_zero_iff.1 (by omega)
    subst this; rfl
  | n + 1, 0, first, a, l, _, h => by
    have : l = [] := List.length_eq_zero_iff.1 (by omega)
    subst this; rfl
  | n + 1, m + 1, first, a, [], _, _ => rfl
  | n + 1, m + 1, first, a, c :: r, h1, h2 => by
    rw [List.length_cons] at h1 h2
    rw [U, U, U_fuel st all n m true 0 r (by omega) (by omega), U_fuel st all n m false (wideN a c) r (by omega) (by omega)]
    cases hb : blB c
    · rfl
    · have hp := span_pos (r := r) hb
      have hl : ((c :: r).drop (spanB (c :: r))).length ≤ r.length := by rw [List.length_drop, hp, List.length_cons]; omega
      rw [U_fuel st all n m false _ ((c :: r).drop (spanB (c :: r))) (by omega) (by omega)]
def V (st : List Int) (all first : Bool) (a : Nat) (l : List Int) : List Int := U st all l.length first a l
theorem V_nil (st : List Int) (all first : Bool) (a : Nat) : V st all first a [] = [] := rfl
theorem V_cons (st : List Int) (all first : Bool) (a : Nat) (c : Int) (r : List Int) : V st all first a (c :: r) = bif c == 10 then 10 :: V st all true 0 r else bif blB c then
      piece st all first a ((c :: r).take (spanB (c :: r))) ++ V st all false (colB st a ((c :: r).take (spanB (c :: r)))) ((c :: r).drop (spanB (c :: r))) else c :: V st all false (wideN a c) r := by
  show U st all (r.length + 1) first a (c :: r) = _
  rw [U]
  unfold V
  cases hb : blB c
  · rfl
  · have hp := span_pos (r := r) hb
    have hl : ((c :: r).drop (spanB (c :: r))).length ≤ r.length := by rw [List.length_drop, hp, List.length_cons]; omega
    rw [U_fuel st all r.length ((c :: r).drop (spanB (c :: r))).length false _ ((c :: r).drop (spanB (c :: r))) hl (Nat.le_refl _)]
theorem bl10 {c : Int} (h : blB c = true) : (c == 10) = false := by
  unfold blB at h
  rw [beq_eq_false_iff_ne]
  intro e; subst e; exact absurd h (by decide)
theorem V_blank {st : List Int} {all first : Bool} {a : Nat} {c : Int} {r : List Int} (h : blB c = true) : V st all first a (c :: r) = piece st all first a ((c :: r).take (spanB (c :: r))) ++ V st all false (colB st a ((c :: r).take (spanB (c :: r)))) ((c :: r).drop (spanB (c :: r))) := by
  rw [V_cons, h, bl10 h]; rfl
theorem tb_st {st : List Int} {a : Nat} {c : Int} (h : blB c = true) : tb st a c = stN st a c := by
  unfold tb stN
  rw [bl10 h]
  cases h9 : c == 9
  · have : c = 32 := by
      unfold blB at h
      rw [h9, Bool.or_false] at h
      simpa using h
    subst this; rfl
  · rfl
/-- byte by byte, where a byte is no blank, or blanks stay -/
theorem V_step {st : List Int} {all first : Bool} {a : Nat} {c : Int} {r : List Int} (h : blB c = false ∨ (first = false ∧ all = false)) : V st all first a (c :: r) = c :: V st all (c == 10) (stN st a c) r := by
  cases hb : blB c
  · rw [V_cons, hb]
    have h9 : (c == 9) = false := by
      unfold blB at hb
      exact (Bool.or_eq_false_iff.1 hb).2
    unfold stN
    rw [h9]
    cases h10 : c == 10
    · rfl
    · have : c = 10 := by simpa using h10
      subst this; rfl
  · rcases h with h | ⟨h1, h2⟩
    · rw [hb] at h; exact absurd h (by decide)
    · subst h1; subst h2
      have pc : ∀ a l, piece st false false a l = l := fun a l => by unfold piece; rfl
      rw [V_blank hb, pc, bl10 hb, span_pos hb, List.take_succ_cons, List.drop_succ_cons, colB, tb_st hb, List.cons_append]
      congr 1
      cases r with
      | nil => rfl
      | cons d r' =>
        cases hd : blB d
        · have : spanB (d :: r') = 0 := by unfold spanB; rw [hd]; rfl
          rw [this]; rfl
        · rw [V_blank hd, pc]
theorem span_app (m : List Int) : ∀ l : List Int, spanB (l ++ 10 :: m) = spanB l
  | [] => rfl
  | c :: r => by
    have ih := span_app m r
    show (bif blB c then spanB (r ++ 10 :: m) + 1 else 0) = (bif blB c then spanB r + 1 else 0)
    rw [ih]
def no10 (l : List Int) : Prop := ∀ x ∈ l, (x == 10) = false
theorem V_app (st : List Int) (all : Bool) (m : List Int) : ∀ (n : Nat) (first : Bool) (a : Nat) (l : List Int), l.length ≤ n → no10 l → V st all first a (l ++ 10 :: m) = V st all first a l ++ 10 :: V st all true 0 m
  | n, first, a, [], _, _ => by
    show V st all first a (10 :: m) = _
    rw [V_cons]; rfl
  | 0, first, a, c :: r, h, _ => by rw [List.length_cons] at h; omega
  | n + 1, first, a, c :: r, h, hno => by
    rw [List.length_cons] at h
    have h10 := hno c (List.mem_cons_self ..)
    cases hb : blB c
    · rw [List.cons_append, V_cons, V_cons, hb, h10]
      simp only [cond_false]
      rw [V_app st all m n false (wideN a c) r (by omega) (fun x hx => hno x (List.mem_cons_of_mem _ hx))]; rfl
    · have hsp : spanB (c :: r ++ 10 :: m) = spanB (c :: r) := span_app m (c :: r)
      have hle := spanB_le (c :: r)
      have hp := span_pos (r := r) hb
      have ht : (c :: r ++ 10 :: m).take (spanB (c :: r)) = (c :: r).take (spanB (c :: r)) := List.take_append_of_le_length hle
      have hd : (c :: r ++ 10 :: m).drop (spanB (c :: r)) = (c :: r).drop (spanB (c :: r)) ++ 10 :: m := List.drop_append_of_le_length hle
      have e1 : V st all first a (c :: r ++ 10 :: m) = piece st all first a ((c :: r).take (spanB (c :: r))) ++ V st all false (colB st a ((c :: r).take (spanB (c :: r)))) ((c :: r).drop (spanB (c :: r)) ++ 10 :: m) := by
        have := V_blank (st := st) (all := all) (first := first) (a := a) (c := c) (r := r ++ 10 :: m) hb
        rw [← List.cons_append, hsp, ht, hd] at this
        exact this
      rw [e1, V_blank hb, V_app st all m n false _ ((c :: r).drop (spanB (c :: r))) (by rw [List.length_drop, hp, List.length_cons]; omega) (fun x hx => hno x (List.mem_of_mem_drop hx)), List.append_assoc]
/-! ### line by line it is the same -/
def wholeS (ended : Bool) : List (List Int) → List Int
  | [] => []
  | [l] => l ++ (bif ended then [10] else [])
  | l :: l' :: r => l ++ 10 :: wholeS ended (l' :: r)
theorem linesF_nil' : ∀ (r line : List Int), (linesF r line).1 = [] → r = [] ∧ line = []
  | [], line, h => by
    unfold linesF at h
    cases line with
    | nil => exact ⟨rfl, rfl⟩
    | cons a l => cases h
  | c :: r, line, h => by
    unfold linesF at h
    cases e : c == 10 <;> rw [e] at h
    · have := linesF_nil' r (line ++ [c]) h
      simp at this
    · cases h
theorem whole_V (st : List Int) (all : Bool) : ∀ (b pre : List Int), no10 pre → wholeS (linesF b pre).2 ((linesF b pre).1.map (V st all true 0)) = V st all true 0 (pre ++ b)
  | [], pre, h => by
    unfold linesF
    cases pre with
    | nil => rfl
    | cons c r =>
      show V st all true 0 (c :: r) ++ [] = _
      rw [List.append_nil, List.append_nil]
  | c :: r, pre, h => by
    unfold linesF
    cases h10 : c == 10
    · rw [cond_false, whole_V st all r (pre ++ [c]) (fun x hx => by
        rw [List.mem_append, List.mem_singleton] at hx
        cases hx with
        | inl hx => exact h x hx
        | inr hx => subst hx; exact h10), List.append_assoc]; rfl
    · have hc : c = 10 := by simpa using h10
      subst hc
      rw [cond_true]
      have ih := whole_V st all r [] (fun x hx => absurd hx (List.not_mem_nil))
      rw [List.nil_append] at ih
      rw [V_app st all r pre.length true 0 pre (Nat.le_refl _) h, ← ih]
      cases hL : (linesF r []).1 with
      | nil =>
        obtain ⟨e1, _⟩ := linesF_nil' r [] hL
        subst e1; rfl
      | cons l ls => rfl
end Go.Proofs.Try.S

namespace Go.Proofs.Try.S
open Go Go.Ev
theorem F73_eq (k : Nat) (c : Int) : F73.go k c = some ((blB c, ()), (), ()) := by
  unfold F73.go blB
  cases c == 32 <;> rfl
theorem V_len {st : List Int} (hs : stG st) (all : Bool) : ∀ (n : Nat) (first : Bool) (a : Nat) (l : List Int), l.length ≤ n → (V st all first a l).length ≤ 1000 * l.length
  | n, first, a, [], _ => Nat.zero_le _
  | 0, first, a, c :: r, h => by rw [List.length_cons] at h; omega
  | n + 1, first, a, c :: r, h => by
    rw [List.length_cons] at h
    cases hb : blB c
    · rw [V_step (.inl hb), List.length_cons, List.length_cons]
      have := V_len hs all n (c == 10) (stN st a c) r (by omega)
      omega
    · have hle := spanB_le (c :: r)
      have hp := span_pos (r := r) hb
      have h1 := piece_len hs all first a ((c :: r).take (spanB (c :: r)))
      have h2 := V_len hs all n false (colB st a ((c :: r).take (spanB (c :: r)))) ((c :: r).drop (spanB (c :: r))) (by rw [List.length_drop, hp, List.length_cons]; omega)
      rw [V_blank hb, List.length_append]
      rw [List.length_take] at h1
      rw [List.length_drop] at h2
      omega
/-! ### the program's unexpand -/
theorem F40_in (k : Nat) (st b : List Int) (hs : stG st) (hb : b.length ≤ 1048576) (hl : st.length ≤ 1048576) (hk : st.length < k) (q4 q5 q6 q7 q8 q10 : Bool) (q9 q11 : Int) (acc : List Int) :
    ∀ (m n to fu : Nat), n + m = b.length → to ≤ 1000 * n → m < fu →
      loopN (F40.s129628 k) fu (((n : Int), (to : Int), own8 st, b, q4, q5, q6, q7, q8, (), q9, q10, q11, ()), (acc, ()), ()) =
        some ((b, own8 st, q4, q5, q6, q7, q8, ((n + spanB (b.drop n) : Nat) : Int), ((colB st to ((b.drop n).take (spanB (b.drop n))) : Nat) : Int), (), q9, q10, q11, ()), (acc, ()), ()) := by
  intro m
  induction m with
  | zero =>
    intro n to fu hn ht hf
    obtain ⟨fu, rfl⟩ : ∃ f', fu = f' + 1 := ⟨fu - 1, by omega⟩
    have hie : n = b.length := by omega
    subst hie
    refine loopN_inr ?_
    simp only [F40.s129628, F40.go129628, lt_dec', cond_false, List.drop_length]
    rfl
  | succ m ih =>
    intro n to fu hn ht hf
    obtain ⟨fu, rfl⟩ : ∃ f', fu = f' + 1 := ⟨fu - 1, by omega⟩
    have hil : n < b.length := by omega
    have w1 := wadd1 n (by show _ < 140737488351232; omega)
    have hd := drop_int hil
    cases hbl : blB b[n]
    · refine loopN_inr ?_
      have hsp : spanB (b.drop n) = 0 := by rw [hd]; show (bif blB b[n] then _ else 0) = 0; rw [hbl]; rfl
      rw [hsp]
      simp only [F40.s129628, F40.go129628, lt_dec hil, dec0, Bool.true_and, cond_true, Int.toNat_natCast, gD hil, F73_eq, Option.bind_some, hbl, cond_false]
      rfl
    · have hsp : spanB (b.drop n) = spanB (b.drop (n + 1)) + 1 := by rw [hd]; exact span_pos hbl
      have htk : (b.drop n).take (spanB (b.drop n)) = b[n] :: (b.drop (n + 1)).take (spanB (b.drop (n + 1))) := by rw [hsp, hd, List.take_succ_cons]
      have ht1 := tb_ok hs to b[n]
      rw [loopN_inl (x' := ((((n + 1 : Nat) : Int), ((tb st to b[n] : Nat) : Int), own8 st, b, q4, q5, q6, q7, q8, (), q9, q10, q11, ()), (acc, ()), ()))]
      · rw [ih (n + 1) (tb st to b[n]) fu (by omega) (by omega) (by omega), htk, hsp]
        have e : n + 1 + spanB (b.drop (n + 1)) = n + (spanB (b.drop (n + 1)) + 1) := by omega
        rw [e]; rfl
      · cases h9 : b[n] == 9
        · have e1 : tb st to b[n] = to + 1 := by unfold tb; rw [h9]; rfl
          rw [e1]
          simp only [F40.s129628, F40.go129628, lt_dec hil, dec0, Bool.true_and, cond_true, Int.toNat_natCast, gD hil, F73_eq, Option.bind_some, hbl, h9, cond_false, w1, wadd1 to (by show _ < 140737488351232; omega)]
        · have e1 : tb st to b[n] = tabN st to := by unfold tb; rw [h9]; rfl
          rw [e1]
          simp only [F40.s129628, F40.go129628, lt_dec hil, dec0, Bool.true_and, cond_true, Int.toNat_natCast, gD hil, F73_eq, Option.bind_some, hbl, h9, w1, F69_eq k st hs to (by omega) hl hk, outN_tab]
theorem F40_run (k : Nat) (st b : List Int) (hs : stG st) (hb : b.length ≤ 1048576) (hl : st.length ≤ 1048576) (hk : st.length < k) (hk2 : 2000000002 < k) (all start : Bool) (q2 q3 q4 q5 q6 : Bool) (i a : Nat) (acc : List Int) (hi : i < b.length) (ha : a ≤ 1000 * i) (hacc : acc.length ≤ 1000 * i) (hbl : blB b[i] = true) (hsa : start = true ∨ all = true) :
    F40.go8101 k (own8 st) b q2 q3 q4 q5 q6 (a : Int) start (i : Int) acc = some (.inl ((((i + spanB (b.drop i) : Nat) : Int), b, ((colB st a ((b.drop i).take (spanB (b.drop i))) : Nat) : Int), own8 st, (), false, q2, q3, q4, q5, q6, ()), (acc ++ piece st all start a ((b.drop i).take (spanB (b.drop i))), ()), ())) := by
  have hin := F40_in k st b hs hb hl hk q2 q3 q4 q5 q6 start (a : Int) (i : Int) acc (b.length - i) i a k (by omega) ha (by omega)
  have hd := drop_int hi
  have hsp : spanB (b.drop i) = spanB (b.drop (i + 1)) + 1 := by rw [hd]; exact span_pos hbl
  have hle := spanB_le (b.drop i)
  rw [List.length_drop] at hle
  have hlt : ((b.drop i).take (spanB (b.drop i))).length = spanB (b.drop i) := by rw [List.length_take, List.length_drop]; omega
  have hcol := colB_ok hs ((b.drop i).take (spanB (b.drop i))) a
  rw [hlt] at hcol
  have hpl := piece_len hs all start a ((b.drop i).take (spanB (b.drop i)))
  rw [hlt] at hpl
  have w1 := wadd1 i (by show _ < 140737488351232; omega)
  have h0 : ((b.drop i).take (spanB (b.drop i))).getD 0 0 = b[i] := by rw [hsp, hd, List.take_succ_cons]; rfl
  -- the run of tabs
  have f74 := F74_eq k st hs a (colB st a ((b.drop i).take (spanB (b.drop i)))) (by omega) (by omega) hl hk hk2
  have hrl := runF_len hs (colB st a ((b.drop i).take (spanB (b.drop i))) - a) a (colB st a ((b.drop i).take (spanB (b.drop i))))
  have b1 := bleB (n := (acc ++ runS st a (colB st a ((b.drop i).take (spanB (b.drop i))))).length) (by rw [List.length_append]; unfold runS; show _ ≤ 140737488351232; omega)
  have b2 := bleB (n := (acc ++ [(32 : Int)]).length) (by rw [List.length_append, List.length_singleton]; show _ ≤ 140737488351232; omega)
  unfold F40.go8101 F40.l_129628
  rw [hin, Option.bind_some]
  by_cases h1 : spanB (b.drop i) = 1
  · have e1 : (((i + spanB (b.drop i) : Nat) : Int) == IntKind.i64.wrap ((i : Int) + 1)) = true := by rw [w1, h1]; exact beq_self_eq_true _
    cases h32 : b[i] == 32
    · have hp : piece st all start a ((b.drop i).take (spanB (b.drop i))) = runS st a (colB st a ((b.drop i).take (spanB (b.drop i)))) := by
        unfold piece
        rw [h0, h32, Bool.and_false]
        cases start
        · rcases hsa with h | h
          · exact absurd h (by decide)
          · rw [h]; rfl
        · rfl
      rw [hp]
      simp only [e1, cond_true, lt_dec hi, dec0, Bool.true_and, Int.toNat_natCast, gD hi, h32, cond_false, f74, Option.bind_some, Sum.elim_inl, b1]
    · cases start
      · have hp : piece st all false a ((b.drop i).take (spanB (b.drop i))) = [32] := by
          unfold piece
          rw [h0, h32, hlt, h1]
          have e : b[i] = 32 := by simpa using h32
          have : (b.drop i).take 1 = [32] := by rw [hd, List.take_succ_cons, e]; rfl
          rw [this]
          cases all <;> rfl
        rw [hp]
        simp only [e1, cond_true, lt_dec hi, dec0, Bool.true_and, Int.toNat_natCast, gD hi, h32, Bool.not_false, b2]
      · have hp : piece st all true a ((b.drop i).take (spanB (b.drop i))) = runS st a (colB st a ((b.drop i).take (spanB (b.drop i)))) := rfl
        rw [hp]
        simp only [e1, cond_true, lt_dec hi, dec0, Bool.true_and, Int.toNat_natCast, gD hi, h32, Bool.not_true, cond_false, f74, Option.bind_some, Sum.elim_inl, b1]
  · have e1 : (((i + spanB (b.drop i) : Nat) : Int) == IntKind.i64.wrap ((i : Int) + 1)) = false := by rw [w1, beq_eq_false_iff_ne]; omega
    have hp : piece st all start a ((b.drop i).take (spanB (b.drop i))) = runS st a (colB st a ((b.drop i).take (spanB (b.drop i)))) := by
      unfold piece
      have hne : Nat.beq (spanB (b.drop i)) 1 = false := by
        cases h : Nat.beq (spanB (b.drop i)) 1
        · rfl
        · exact absurd (Nat.eq_of_beq_eq_true h) h1
      rw [hlt, hne, Bool.false_and]
      cases start
      · rcases hsa with h | h
        · exact absurd h (by decide)
        · rw [h]; rfl
      · rfl
    rw [hp]
    simp only [e1, cond_false, f74, Option.bind_some, Sum.elim_inl, b1, cond_true]
theorem F40_loop (k : Nat) (st b : List Int) (hs : stG st) (hb : b.length ≤ 1048576) (hl : st.length ≤ 1048576) (hk : st.length < k) (hk2 : 2000000002 < k) (all : Bool) :
    ∀ (m i a : Nat) (start : Bool) (acc : List Int) (fu : Nat), b.length - i ≤ m → i ≤ b.length → a ≤ 1000 * i → acc.length ≤ 1000 * i → m < fu →
      loopN (F40.s506 k) fu (((i : Int), b, (a : Int), own8 st, (), start, all, ()), (acc, ()), ()) = some (.inr (((), ()), (acc ++ V st all start a (b.drop i), ()), ())) := by
  intro m
  have done : ∀ (a : Nat) (start : Bool) (acc : List Int), F40.s506 k (((b.length : Int), b, (a : Int), own8 st, (), start, all, ()), (acc, ()), ()) = some (.inr (.inr (((), ()), (acc ++ V st all start a (b.drop b.length), ()), ()))) := by
    intro a start acc
    simp only [F40.s506, F40.go506, lt_dec', cond_false, List.drop_length, V_nil, List.append_nil]
  induction m with
  | zero =>
    intro i a start acc fu hm hi ha hacc hf
    obtain ⟨fu, rfl⟩ : ∃ f', fu = f' + 1 := ⟨fu - 1, by omega⟩
    have hie : i = b.length := by omega
    subst hie
    exact loopN_inr (done a start acc)
  | succ m ih =>
    intro i a start acc fu hm hi ha hacc hf
    obtain ⟨fu, rfl⟩ : ∃ f', fu = f' + 1 := ⟨fu - 1, by omega⟩
    by_cases hie : i = b.length
    · subst hie
      exact loopN_inr (done a start acc)
    · have hil : i < b.length := by omega
      have w1 := wadd1 i (by show _ < 140737488351232; omega)
      have hd := drop_int hil
      have hst := stN_le hs a b[i]
      have b1 := bleB (n := (acc ++ [b[i]]).length) (by rw [List.length_append, List.length_singleton]; show _ ≤ 140737488351232; omega)
      have ha2 : a ≤ 2000000000 := by omega
      have one : (blB b[i] = false ∨ (start = false ∧ all = false)) → F40.s506 k (((i : Int), b, (a : Int), own8 st, (), start, all, ()), (acc, ()), ()) = some (.inl ((((i + 1 : Nat) : Int), b, ((stN st a b[i] : Nat) : Int), own8 st, (), b[i] == 10, all, ()), (acc ++ [b[i]], ()), ())) →
          loopN (F40.s506 k) (fu + 1) (((i : Int), b, (a : Int), own8 st, (), start, all, ()), (acc, ()), ()) = some (.inr (((), ()), (acc ++ V st all start a (b.drop i), ()), ())) := by
        intro hc hgo
        rw [loopN_inl hgo, ih (i + 1) (stN st a b[i]) (b[i] == 10) (acc ++ [b[i]]) fu (by omega) (by omega) (by omega) (by rw [List.length_append, List.length_singleton]; omega) (by omega), hd, V_step hc, List.append_assoc]
        rfl
      have hch : ∀ (b9 : Bool), (b[i] == 9) = b9 → (b9 = true → ((tabN st a : Nat) : Int) = ((stN st a b[i] : Nat) : Int)) ∧ (b9 = false → (((bif b[i] == 10 then 0 else wideN a b[i]) : Nat) : Int) = ((stN st a b[i] : Nat) : Int)) := by
        intro b9 h9
        unfold stN
        subst h9
        exact ⟨fun h => by rw [h]; rfl, fun h => by rw [h]; rfl⟩
      cases hbl : blB b[i]
      · refine one (.inl hbl) ?_
        cases h9 : b[i] == 9
        · have e := (hch false h9).2 rfl
          simp only [F40.s506, F40.go506, lt_dec hil, dec0, Bool.true_and, cond_true, Int.toNat_natCast, gD hil, F73_eq, Option.bind_some, hbl, Bool.not_false, b1, h9, cond_false, F68_eq k a b[i] h9 ha2, w1, e]
        · unfold blB at hbl; rw [h9, Bool.or_true] at hbl; exact absurd hbl (by decide)
      · cases hstart : start
        · cases hall : all
          · subst hstart; subst hall
            refine one (.inr ⟨rfl, rfl⟩) ?_
            cases h9 : b[i] == 9
            · have e := (hch false h9).2 rfl
              simp only [F40.s506, F40.go506, lt_dec hil, dec0, Bool.true_and, cond_true, Int.toNat_natCast, gD hil, F73_eq, Option.bind_some, hbl, Bool.not_true, Bool.not_false, b1, h9, cond_false, F68_eq k a b[i] h9 ha2, w1, e]
            · have e := (hch true h9).1 rfl
              simp only [F40.s506, F40.go506, lt_dec hil, dec0, Bool.true_and, cond_true, Int.toNat_natCast, gD hil, F73_eq, Option.bind_some, hbl, Bool.not_true, Bool.not_false, b1, h9, cond_false, F69_eq k st hs a ha2 hl hk, outN_tab, w1, e]
          · subst hstart; subst hall
            have hsp : spanB (b.drop i) = spanB (b.drop (i + 1)) + 1 := by rw [hd]; exact span_pos hbl
            have hle := spanB_le (b.drop i)
            rw [List.length_drop] at hle
            have hlt : ((b.drop i).take (spanB (b.drop i))).length = spanB (b.drop i) := by rw [List.length_take, List.length_drop]; omega
            have hcol := colB_ok hs ((b.drop i).take (spanB (b.drop i))) a
            have hpl := piece_len hs true false a ((b.drop i).take (spanB (b.drop i)))
            rw [hlt] at hcol hpl
            have hrun := F40_run k st b hs hb hl hk hk2 true false (!true) true true (!false) false i a acc hil ha hacc hbl (.inr rfl)
            rw [loopN_inl (x' := ((((i + spanB (b.drop i) : Nat) : Int), b, ((colB st a ((b.drop i).take (spanB (b.drop i))) : Nat) : Int), own8 st, (), false, true, ()), (acc ++ piece st true false a ((b.drop i).take (spanB (b.drop i))), ()), ()))]
            · rw [ih (i + spanB (b.drop i)) _ false _ fu (by omega) (by omega) (by omega) (by rw [List.length_append]; omega) (by omega)]
              have e : V st true false a (b.drop i) = piece st true false a ((b.drop i).take (spanB (b.drop i))) ++ V st true false (colB st a ((b.drop i).take (spanB (b.drop i)))) (b.drop (i + spanB (b.drop i))) := by
                have := V_blank (st := st) (all := true) (first := false) (a := a) (c := b[i]) (r := b.drop (i + 1)) hbl
                rw [← hd] at this
                rw [this, List.drop_drop]
              rw [e, List.append_assoc]
            · simp only [F40.s506, F40.go506, lt_dec hil, dec0, Bool.true_and, cond_true, Int.toNat_natCast, gD hil, F73_eq, Option.bind_some, hbl, Bool.not_true, Bool.not_false, cond_false]
              simp only [Bool.not_true, Bool.not_false] at hrun
              rw [hrun]; rfl
        · subst hstart
          have hsp : spanB (b.drop i) = spanB (b.drop (i + 1)) + 1 := by rw [hd]; exact span_pos hbl
          have hle := spanB_le (b.drop i)
          rw [List.length_drop] at hle
          have hlt : ((b.drop i).take (spanB (b.drop i))).length = spanB (b.drop i) := by rw [List.length_take, List.length_drop]; omega
          have hcol := colB_ok hs ((b.drop i).take (spanB (b.drop i))) a
          have hpl := piece_len hs all true a ((b.drop i).take (spanB (b.drop i)))
          rw [hlt] at hcol hpl
          have hrun := F40_run k st b hs hb hl hk hk2 all true false false all (!true) true i a acc hil ha hacc hbl (.inl rfl)
          rw [loopN_inl (x' := ((((i + spanB (b.drop i) : Nat) : Int), b, ((colB st a ((b.drop i).take (spanB (b.drop i))) : Nat) : Int), own8 st, (), false, all, ()), (acc ++ piece st all true a ((b.drop i).take (spanB (b.drop i))), ()), ()))]
          · rw [ih (i + spanB (b.drop i)) _ false _ fu (by omega) (by omega) (by omega) (by rw [List.length_append]; omega) (by omega)]
            have e : V st all true a (b.drop i) = piece st all true a ((b.drop i).take (spanB (b.drop i))) ++ V st all false (colB st a ((b.drop i).take (spanB (b.drop i)))) (b.drop (i + spanB (b.drop i))) := by
              have := V_blank (st := st) (all := all) (first := true) (a := a) (c := b[i]) (r := b.drop (i + 1)) hbl
              rw [← hd] at this
              rw [this, List.drop_drop]
            rw [e, List.append_assoc]
          · simp only [F40.s506, F40.go506, lt_dec hil, dec0, Bool.true_and, cond_true, Int.toNat_natCast, gD hil, F73_eq, Option.bind_some, hbl, Bool.not_true, cond_false]
            simp only [Bool.not_true] at hrun
            rw [hrun]; rfl
theorem F40_good (k : Nat) (st b : List Int) (hs : stG st) (hv : vS st = true) (hb : b.length ≤ 1048576) (hl : st.length ≤ 1048576) (hk : st.length < k) (hk2 : 2000000002 < k) (all : Bool) : F40.go k b st all = some (.inr (.inl ((((), 0, ()), ()), (V st all true 0 b, ()), ()))) := by
  have loop := F40_loop k st b hs hb hl hk hk2 all b.length 0 0 true [] k (by omega) (Nat.zero_le _) (Nat.zero_le _) (Nat.zero_le _) (by omega)
  have e0 : ((0 : Nat) : Int) = 0 := rfl
  rw [e0, List.drop_zero, List.nil_append] at loop
  unfold F40.go F40.l_506
  by_cases h0 : st = []
  · subst h0
    have loop' : loopN (F40.s506 k) k ((0, b, 0, [8], (), true, all, ()), ([], ()), ()) = some (.inr (((), ()), (V [] all true 0 b, ()), ())) := loop
    rw [F67_nil]
    simp only [Option.bind_some, Sum.elim_inl, bne_self_eq_false, cond_false, loop', Sum.elim_inr]
  · have e8 : own8 st = st := by unfold own8; cases st with | nil => exact absurd rfl h0 | cons a r => rfl
    rw [e8] at loop
    rw [F67_eq k st h0 hl hk, hv]
    simp only [cond_true, Option.bind_some, Sum.elim_inr, bne_self_eq_false, cond_false, loop]
theorem F40_bad (k : Nat) (st b : List Int) (all : Bool) (hv : vS st = false) (hl : st.length ≤ 1048576) (hk : st.length < k) : F40.go k b st all = some (.inl ((((), 22, ()), ()), (), ())) := by
  have h0 : st ≠ [] := fun e => by subst e; exact absurd hv (by decide)
  unfold F40.go
  rw [F67_eq k st h0 hl hk, hv]
  simp only [cond_false, Option.bind_some, Sum.elim_inr, Sum.elim_inl]
  rfl
end Go.Proofs.Try.S

namespace Go.Proofs.Try.S
open Go Go.Ev
/-! ### the document's unexpand -/
theorem blB_32 {c : Int} (h : blB c = true) (h2 : (c == 32) = false) : (c == 9) = true := by
  unfold blB at h
  rw [h2, Bool.false_or] at h
  exact h
theorem F41_in (k : Nat) (st b : List Int) (hs : stG st) (hb : b.length ≤ 1048576) (hl : st.length ≤ 1048576) (hk : st.length < k) (q4 q5 : Bool) (q6 q7 q8 q9 q10 : Int) (q11 : List AV) (q12 : List Int) :
    ∀ (m n to fu : Nat), n + m = b.length → to ≤ 1000 * n → m < fu →
      loopN (F41.s8021780 k) fu (((n : Int), st, b, (to : Int), q4, (), (), q5, q6, q7, q8, q9, (), q10, ()), (q11, q12, ()), ()) =
        some ((((n + spanB (b.drop n) : Nat) : Int), st, b, ((colB st to ((b.drop n).take (spanB (b.drop n))) : Nat) : Int), q4, (), (), q5, q6, q7, q8, q9, (), q10, ()), (q11, q12, ()), ()) := by
  intro m
  induction m with
  | zero =>
    intro n to fu hn ht hf
    obtain ⟨fu, rfl⟩ : ∃ f', fu = f' + 1 := ⟨fu - 1, by omega⟩
    have hie : n = b.length := by omega
    subst hie
    refine loopN_inr ?_
    simp only [F41.s8021780, F41.go8021780, lt_dec', cond_false, List.drop_length]
    rfl
  | succ m ih =>
    intro n to fu hn ht hf
    obtain ⟨fu, rfl⟩ : ∃ f', fu = f' + 1 := ⟨fu - 1, by omega⟩
    have hil : n < b.length := by omega
    have w1 := wadd1 n (by show _ < 140737488351232; omega)
    have hd := drop_int hil
    cases hbl : blB b[n]
    · refine loopN_inr ?_
      have hsp : spanB (b.drop n) = 0 := by rw [hd]; show (bif blB b[n] then _ else 0) = 0; rw [hbl]; rfl
      rw [hsp]
      have h32 : (b[n] == 32) = false := by unfold blB at hbl; exact (Bool.or_eq_false_iff.1 hbl).1
      have h9 : (b[n] == 9) = false := by unfold blB at hbl; exact (Bool.or_eq_false_iff.1 hbl).2
      simp only [F41.s8021780, F41.go8021780, lt_dec hil, dec0, Bool.true_and, cond_true, Int.toNat_natCast, gD hil, h32, h9, cond_false]
      rfl
    · have hsp : spanB (b.drop n) = spanB (b.drop (n + 1)) + 1 := by rw [hd]; exact span_pos hbl
      have htk : (b.drop n).take (spanB (b.drop n)) = b[n] :: (b.drop (n + 1)).take (spanB (b.drop (n + 1))) := by rw [hsp, hd, List.take_succ_cons]
      have ht1 := tb_ok hs to b[n]
      have e71 : (bif b[n] == 9 then tabN st to else wideN to b[n]) = tb st to b[n] := by
        rw [tb_st hbl]; unfold stN; rw [bl10 hbl]; rfl
      have f71 := F71_eq k st hs to b[n] (by omega) hl hk
      rw [e71] at f71
      rw [loopN_inl (x' := ((((n + 1 : Nat) : Int), st, b, ((tb st to b[n] : Nat) : Int), q4, (), (), q5, q6, q7, q8, q9, (), q10, ()), (q11, q12, ()), ()))]
      · rw [ih (n + 1) (tb st to b[n]) fu (by omega) (by omega) (by omega), htk, hsp]
        have e : n + 1 + spanB (b.drop (n + 1)) = n + (spanB (b.drop (n + 1)) + 1) := by omega
        rw [e]; rfl
      · cases h32 : b[n] == 32
        · have h9 := blB_32 hbl h32
          simp only [F41.s8021780, F41.go8021780, lt_dec hil, dec0, Bool.true_and, cond_true, Int.toNat_natCast, gD hil, h32, h9, cond_false, f71, Option.bind_some, w1]
        · simp only [F41.s8021780, F41.go8021780, lt_dec hil, dec0, Bool.true_and, cond_true, Int.toNat_natCast, gD hil, h32, cond_false, f71, Option.bind_some, w1]
theorem F41_run (k : Nat) (st b : List Int) (hs : stG st) (hb : b.length ≤ 1048576) (hl : st.length ≤ 1048576) (hk : st.length < k) (hk2 : 2000000002 < k) (all ended : Bool) (q6 q7 q8 : Int) (ls : List AV) (i a : Nat) (acc : List Int) (hi : i < b.length) (ha : a ≤ 1000 * i) (hacc : acc.length ≤ 1000 * i) (hbl : blB b[i] = true) :
    F41.go125340 k (i : Int) st b (a : Int) all ended q6 q7 q8 acc ls = some (.inl ((((i + spanB (b.drop i) : Nat) : Int), st, b, ((colB st a ((b.drop i).take (spanB (b.drop i))) : Nat) : Int), (), all, (), (), ended, q6, q7, q8, ()), (acc ++ piece st all (Nat.beq i 0) a ((b.drop i).take (spanB (b.drop i))), ls, ()), ())) := by
  have hin := F41_in k st b hs hb hl hk all ended q6 q7 q8 (i : Int) (a : Int) ls acc (b.length - i) i a k (by omega) ha (by omega)
  have hd := drop_int hi
  have hsp : spanB (b.drop i) = spanB (b.drop (i + 1)) + 1 := by rw [hd]; exact span_pos hbl
  have hle := spanB_le (b.drop i)
  rw [List.length_drop] at hle
  have hlt : ((b.drop i).take (spanB (b.drop i))).length = spanB (b.drop i) := by rw [List.length_take, List.length_drop]; omega
  have hcol := colB_ok hs ((b.drop i).take (spanB (b.drop i))) a
  rw [hlt] at hcol
  have w1 := wsub (i + spanB (b.drop i)) i (by omega) (by show _ ≤ 140737488351232; omega)
  have e0 : i + spanB (b.drop i) - i = spanB (b.drop i) := by omega
  rw [e0] at w1
  have h0 : ((b.drop i).take (spanB (b.drop i))).getD 0 0 = b[i] := by rw [hsp, hd, List.take_succ_cons]; rfl
  have dgt : decide (((i + spanB (b.drop i) : Nat) : Int) > (i : Int)) = true := decide_eq_true (by omega)
  have dle : decide (((i + spanB (b.drop i) : Nat) : Int) ≤ (b.length : Int)) = true := decide_eq_true (by omega)
  have dle2 : decide ((i : Int) ≤ ((i + spanB (b.drop i) : Nat) : Int)) = true := decide_eq_true (by omega)
  have hsl : List.drop i (List.take (i + spanB (b.drop i)) b) = (b.drop i).take (spanB (b.drop i)) := by rw [List.drop_take, e0]
  have f75 := F75_eq k st hs a (colB st a ((b.drop i).take (spanB (b.drop i)))) (by omega) (by omega) hl hk hk2
  have hrl := runF_len hs (colB st a ((b.drop i).take (spanB (b.drop i))) - a) a (colB st a ((b.drop i).take (spanB (b.drop i))))
  have b1 := bleB (n := (acc ++ runS st a (colB st a ((b.drop i).take (spanB (b.drop i))))).length) (by rw [List.length_append]; unfold runS; show _ ≤ 140737488351232; omega)
  have b2 := bleB (n := (acc ++ (b.drop i).take (spanB (b.drop i))).length) (by rw [List.length_append, hlt]; show _ ≤ 140737488351232; omega)
  unfold F41.go125340 F41.l_8021780
  rw [hin, Option.bind_some]
  cases i with
  | zero =>
    have hp : piece st all (Nat.beq 0 0) a ((b.drop 0).take (spanB (b.drop 0))) = runS st a (colB st a ((b.drop 0).take (spanB (b.drop 0)))) := rfl
    have d0 : decide (((0 : Nat) : Int) > 0) = false := rfl
    rw [hp]
    simp only [lt_dec hi, cond_true, dgt, d0, cond_false, f75, Option.bind_some, b1]
  | succ j =>
    have d0 : decide (((j + 1 : Nat) : Int) > 0) = true := decide_eq_true (by omega)
    have hf0 : Nat.beq (j + 1) 0 = false := rfl
    rw [hf0]
    cases all
    · have hp : ∀ l, piece st false false a l = l := fun l => by unfold piece; rfl
      rw [hp]
      simp only [lt_dec hi, cond_true, dgt, d0, Bool.not_false, dec0, dle, dle2, Bool.true_and, Bool.and_true, Int.toNat_natCast, hsl, b2]
    · by_cases h1 : spanB (b.drop (j + 1)) = 1
      · have e1 : (((spanB (b.drop (j + 1)) : Nat) : Int) == 1) = true := by rw [h1]; rfl
        cases h32 : b[j + 1] == 32
        · have hp : piece st true false a ((b.drop (j + 1)).take (spanB (b.drop (j + 1)))) = runS st a (colB st a ((b.drop (j + 1)).take (spanB (b.drop (j + 1))))) := by
            unfold piece
            rw [h0, h32, Bool.and_false]; rfl
          rw [hp]
          simp only [lt_dec hi, cond_true, dgt, d0, Bool.not_true, cond_false, w1, e1, dec0, Bool.true_and, Int.toNat_natCast, gD hi, h32, f75, Option.bind_some, b1]
        · have hp : piece st true false a ((b.drop (j + 1)).take (spanB (b.drop (j + 1)))) = (b.drop (j + 1)).take (spanB (b.drop (j + 1))) := by
            unfold piece
            rw [h0, h32, hlt, h1]; rfl
          rw [hp]
          simp only [lt_dec hi, cond_true, dgt, d0, Bool.not_true, cond_false, w1, e1, dec0, Bool.true_and, Int.toNat_natCast, gD hi, h32, dle, dle2, hsl, b2]
      · have e1 : (((spanB (b.drop (j + 1)) : Nat) : Int) == 1) = false := by rw [beq_eq_false_iff_ne]; omega
        have hp : piece st true false a ((b.drop (j + 1)).take (spanB (b.drop (j + 1)))) = runS st a (colB st a ((b.drop (j + 1)).take (spanB (b.drop (j + 1))))) := by
          unfold piece
          have hne : Nat.beq (spanB (b.drop (j + 1))) 1 = false := by
            cases h : Nat.beq (spanB (b.drop (j + 1))) 1
            · rfl
            · exact absurd (Nat.eq_of_beq_eq_true h) h1
          rw [hlt, hne]; rfl
        rw [hp]
        simp only [lt_dec hi, cond_true, dgt, d0, Bool.not_true, cond_false, w1, e1, f75, Option.bind_some, b1]
theorem F41_line (k : Nat) (st b : List Int) (hs : stG st) (hb : b.length ≤ 1048576) (hl : st.length ≤ 1048576) (hk : st.length < k) (hk2 : 2000000002 < k) (hno : no10 b) (all ended : Bool) (q6 q7 q8 : Int) (ls : List AV) :
    ∀ (m i a : Nat) (acc : List Int) (fu : Nat), b.length - i ≤ m → i ≤ b.length → a ≤ 1000 * i → acc.length ≤ 1000 * i → m < fu →
      loopN (F41.s125340 k) fu (((i : Int), st, b, (a : Int), (), all, (), (), ended, q6, q7, q8, ()), (acc, ls, ()), ()) = some ((st, all, (), (), ended, q6, q7, (), q8, ()), (ls, acc ++ V st all (Nat.beq i 0) a (b.drop i), ()), ()) := by
  intro m
  have done : ∀ (a : Nat) (acc : List Int), F41.s125340 k (((b.length : Int), st, b, (a : Int), (), all, (), (), ended, q6, q7, q8, ()), (acc, ls, ()), ()) = some (.inr ((st, all, (), (), ended, q6, q7, (), q8, ()), (ls, acc ++ V st all (Nat.beq b.length 0) a (b.drop b.length), ()), ())) := by
    intro a acc
    simp only [F41.s125340, F41.go125340, lt_dec', cond_false, List.drop_length, V_nil, List.append_nil]
  induction m with
  | zero =>
    intro i a acc fu hm hi ha hacc hf
    obtain ⟨fu, rfl⟩ : ∃ f', fu = f' + 1 := ⟨fu - 1, by omega⟩
    have hie : i = b.length := by omega
    subst hie
    exact loopN_inr (done a acc)
  | succ m ih =>
    intro i a acc fu hm hi ha hacc hf
    obtain ⟨fu, rfl⟩ : ∃ f', fu = f' + 1 := ⟨fu - 1, by omega⟩
    by_cases hie : i = b.length
    · subst hie
      exact loopN_inr (done a acc)
    · have hil : i < b.length := by omega
      have w1 := wadd1 i (by show _ < 140737488351232; omega)
      have hd := drop_int hil
      have hst := stN_le hs a b[i]
      have b1 := bleB (n := (acc ++ [b[i]]).length) (by rw [List.length_append, List.length_singleton]; show _ ≤ 140737488351232; omega)
      cases hbl : blB b[i]
      · have hin := F41_in k st b hs hb hl hk all ended q6 q7 q8 (i : Int) (a : Int) ls acc (b.length - i) i a k (by omega) ha (by omega)
        have hsp : spanB (b.drop i) = 0 := by rw [hd]; show (bif blB b[i] then _ else 0) = 0; rw [hbl]; rfl
        rw [hsp, List.take_zero, Nat.add_zero] at hin
        have h10 : (b[i] == 10) = false := hno b[i] (List.getElem_mem hil)
        have e71 : (bif b[i] == 9 then tabN st a else wideN a b[i]) = stN st a b[i] := by
          unfold stN; rw [h10]; rfl
        have f71 := F71_eq k st hs a b[i] (by omega) hl hk
        rw [e71] at f71
        have dgt : decide ((i : Int) > (i : Int)) = false := decide_eq_false (by omega)
        rw [loopN_inl (x' := ((((i + 1 : Nat) : Int), st, b, ((stN st a b[i] : Nat) : Int), (), all, (), (), ended, q6, q7, q8, ()), (acc ++ [b[i]], ls, ()), ()))]
        · rw [ih (i + 1) (stN st a b[i]) (acc ++ [b[i]]) fu (by omega) (by omega) (by omega) (by rw [List.length_append, List.length_singleton]; omega) (by omega), hd, V_step (.inl hbl), List.append_assoc, h10]
          rfl
        · unfold F41.s125340 F41.go125340 F41.l_8021780
          simp only [lt_dec hil, cond_true]
          rw [hin, Option.bind_some]
          simp only [dgt, cond_false, lt_dec hil, dec0, Bool.true_and, cond_true, Int.toNat_natCast, gD hil, b1, colB, f71, Option.bind_some, w1]
      · have hsp : spanB (b.drop i) = spanB (b.drop (i + 1)) + 1 := by rw [hd]; exact span_pos hbl
        have hle := spanB_le (b.drop i)
        rw [List.length_drop] at hle
        have hlt : ((b.drop i).take (spanB (b.drop i))).length = spanB (b.drop i) := by rw [List.length_take, List.length_drop]; omega
        have hcol := colB_ok hs ((b.drop i).take (spanB (b.drop i))) a
        have hpl := piece_len hs all (Nat.beq i 0) a ((b.drop i).take (spanB (b.drop i)))
        rw [hlt] at hcol hpl
        have hrun := F41_run k st b hs hb hl hk hk2 all ended q6 q7 q8 ls i a acc hil ha hacc hbl
        rw [loopN_inl hrun, ih (i + spanB (b.drop i)) _ _ fu (by omega) (by omega) (by omega) (by rw [List.length_append]; omega) (by omega)]
        have hn0 : Nat.beq (i + spanB (b.drop i)) 0 = false := by rw [hsp]; rfl
        have e : V st all (Nat.beq i 0) a (b.drop i) = piece st all (Nat.beq i 0) a ((b.drop i).take (spanB (b.drop i))) ++ V st all false (colB st a ((b.drop i).take (spanB (b.drop i)))) (b.drop (i + spanB (b.drop i))) := by
          have := V_blank (st := st) (all := all) (first := Nat.beq i 0) (a := a) (c := b[i]) (r := b.drop (i + 1)) hbl
          rw [← hd] at this
          rw [this, List.drop_drop]
        rw [e, List.append_assoc, hn0]
end Go.Proofs.Try.S

namespace Go.Proofs.Try.S
open Go Go.Ev
/-! ### lines of a text -/
def tot : List (List Int) → Nat
  | [] => 0
  | l :: r => l.length + 1 + tot r
theorem tot_mem : ∀ {ls : List (List Int)} {l : List Int}, l ∈ ls → l.length + 1 ≤ tot ls
  | a :: r, l, h => by
    rw [tot]
    cases h with
    | head => omega
    | tail _ h => have := tot_mem h; omega
theorem tot_len : ∀ (ls : List (List Int)), ls.length ≤ tot ls
  | [] => Nat.le_refl _
  | a :: r => by rw [tot, List.length_cons]; have := tot_len r; omega
theorem lines_tot : ∀ (b pre : List Int), tot (linesF b pre).1 ≤ b.length + pre.length + 1
  | [], pre => by
    unfold linesF
    cases pre with
    | nil => show 0 ≤ _; omega
    | cons a l => show (a :: l).length + 1 + 0 ≤ _; omega
  | c :: r, pre => by
    unfold linesF
    cases c == 10
    · have := lines_tot r (pre ++ [c])
      rw [List.length_append, List.length_singleton] at this
      rw [cond_false, List.length_cons]; omega
    · have := lines_tot r []
      rw [cond_true, tot, List.length_cons]
      simp only [List.length_nil] at this
      omega
theorem lines_no10 : ∀ (b pre : List Int), no10 pre → ∀ l ∈ (linesF b pre).1, no10 l
  | [], pre, h, l, hl => by
    unfold linesF at hl
    cases pre with
    | nil => exact absurd hl (List.not_mem_nil)
    | cons a r => rw [List.mem_singleton.1 hl]; exact h
  | c :: r, pre, h, l, hl => by
    unfold linesF at hl
    cases h10 : c == 10 <;> rw [h10] at hl
    · refine lines_no10 r (pre ++ [c]) (fun x hx => ?_) l hl
      rw [List.mem_append, List.mem_singleton] at hx
      cases hx with
      | inl hx => exact h x hx
      | inr hx => subst hx; exact h10
    · rw [cond_true] at hl
      cases hl with
      | head => exact h
      | tail _ hl => exact lines_no10 r [] (fun x hx => absurd hx (List.not_mem_nil)) l hl
theorem tot_V {st : List Int} (hs : stG st) (all : Bool) : ∀ ls : List (List Int), tot (ls.map (V st all true 0)) ≤ 1000 * tot ls
  | [] => Nat.le_refl _
  | l :: r => by
    have h1 := tot_V hs all r
    have h2 := V_len hs all l.length true 0 l (Nat.le_refl _)
    rw [List.map_cons, tot, tot]; omega
theorem mapA (ls : List (List Int)) (i : Nat) (h : i < ls.length) : AV.ints! ((ls.map lineA).getD i (AV.tuple [])) = ls[i] := by
  rw [List.getD_eq_getElem?_getD, List.getElem?_map, List.getElem?_eq_getElem h]; rfl
/-! ### the lines of unexpand -/
theorem F41_lines (k : Nat) (st : List Int) (hs : stG st) (hl : st.length ≤ 1048576) (hk : st.length < k) (hk2 : 2000000002 < k) (all ended : Bool) (n : Nat) (hn : n ≤ 1048577) :
    ∀ (ls2 ls1 : List (List Int)) (fu : Nat), ls1.length + ls2.length = n → (∀ l ∈ ls2, no10 l ∧ l.length ≤ 1048576) → ls2.length < fu →
      loopN (F41.s122 k) fu ((st, all, (ls1.length : Int), (), (), ended, (n : Int), ()), ((ls1 ++ ls2).map lineA, ()), ()) = some ((ended, (), ()), ((ls1 ++ ls2.map (V st all true 0)).map lineA, ()), ()) := by
  intro ls2
  induction ls2 with
  | nil =>
    intro ls1 fu hi hq hf
    obtain ⟨fu, rfl⟩ : ∃ f', fu = f' + 1 := ⟨fu - 1, by omega⟩
    have hie : ls1.length = n := by simpa using hi
    subst hie
    refine loopN_inr ?_
    simp only [F41.s122, F41.go122, lt_dec', cond_false, List.append_nil, List.map_nil]
  | cons l r ih =>
    intro ls1 fu hi hq hf
    obtain ⟨fu, rfl⟩ : ∃ f', fu = f' + 1 := ⟨fu - 1, by omega⟩
    rw [List.length_cons] at hi hf
    obtain ⟨hno, hlen⟩ := hq l (List.mem_cons_self ..)
    have w1 := wadd1 ls1.length (by show _ < 140737488351232; omega)
    have hlt : ls1.length < n := by omega
    have hin : ls1.length < (ls1 ++ l :: r).length := by rw [List.length_append, List.length_cons]; omega
    have hin2 : ls1.length < ((ls1 ++ l :: r).map lineA).length := by rw [List.length_map]; exact hin
    have hget := mapA (ls1 ++ l :: r) ls1.length hin
    have hel : (ls1 ++ l :: r)[ls1.length] = l := by rw [List.getElem_append_right (Nat.le_refl _)]; simp
    rw [hel] at hget
    have line := F41_line k st l hs hlen hl hk hk2 hno all ended (n : Int) (ls1.length : Int) (ls1.length : Int) ((ls1 ++ l :: r).map lineA) l.length 0 0 [] k (by omega) (Nat.zero_le _) (Nat.zero_le _) (Nat.zero_le _) (by omega)
    have e0 : ((0 : Nat) : Int) = 0 := rfl
    rw [e0, List.drop_zero, List.nil_append] at line
    have hset : ((ls1 ++ l :: r).map lineA).set ls1.length (lineA (V st all true 0 l)) = ((ls1 ++ [V st all true 0 l]) ++ r).map lineA := by
      rw [List.map_append, List.map_cons, List.set_append_right (h := by rw [List.length_map]; exact Nat.le_refl _), List.length_map, Nat.sub_self, List.set_cons_zero, List.map_append, List.map_append, List.append_assoc]; rfl
    have hlen1 : (ls1 ++ [V st all true 0 l]).length = ls1.length + 1 := by rw [List.length_append, List.length_singleton]
    rw [loopN_inl (x' := ((st, all, (((ls1 ++ [V st all true 0 l]).length : Nat) : Int), (), (), ended, (n : Int), ()), (((ls1 ++ [V st all true 0 l]) ++ r).map lineA, ()), ()))]
    · rw [ih (ls1 ++ [V st all true 0 l]) fu (by omega) (fun x hx => hq x (List.mem_cons_of_mem _ hx)) (by omega), List.append_assoc]; rfl
    · unfold F41.s122 F41.go122 F41.l_125340
      simp only [lt_dec hlt, cond_true, lt_dec hin2, dec0, Bool.true_and, Int.toNat_natCast, hget]
      rw [line, Option.bind_some]
      have hb0 : Nat.beq 0 0 = true := rfl
      simp only [lt_dec hin2, dec0, Bool.true_and, cond_true, Int.toNat_natCast, w1, hlen1, hb0]
      rw [← hset]; rfl
/-! ### lines as bytes -/
theorem F19_loop (k : Nat) (ended : Bool) (ls : List (List Int)) (hn : ls.length ≤ 1048577) :
    ∀ (m i fu : Nat) (acc : List Int), i + m = ls.length → acc.length + tot (ls.drop i) ≤ 2000000000 → m < fu →
      loopN (F19.s58 k) fu (((i : Int), ended, (), (), (), (ls.length : Int), ()), (ls.map lineA, acc, ()), ()) = some (((), ()), (ls.map lineA, acc ++ wholeS ended (ls.drop i), ()), ()) := by
  intro m
  induction m with
  | zero =>
    intro i fu acc hi ht hf
    obtain ⟨fu, rfl⟩ : ∃ f', fu = f' + 1 := ⟨fu - 1, by omega⟩
    have hie : i = ls.length := by omega
    subst hie
    refine loopN_inr ?_
    simp only [F19.s58, F19.go58, lt_dec', cond_false, List.drop_length]
    simp [wholeS]
  | succ m ih =>
    intro i fu acc hi ht hf
    obtain ⟨fu, rfl⟩ : ∃ f', fu = f' + 1 := ⟨fu - 1, by omega⟩
    have hil : i < ls.length := by omega
    have hil2 : i < (ls.map lineA).length := by rw [List.length_map]; exact hil
    have w1 := wadd1 i (by show _ < 140737488351232; omega)
    have hd : ls.drop i = ls[i] :: ls.drop (i + 1) := List.drop_eq_getElem_cons hil
    have hget := mapA ls i hil
    have ht' := ht
    rw [hd, tot] at ht'
    have b1 := bleB (n := (acc ++ ls[i]).length) (by rw [List.length_append]; show _ ≤ 140737488351232; omega)
    have b2 := bleB (n := (acc ++ ls[i] ++ [(10 : Int)]).length) (by rw [List.length_append, List.length_append, List.length_singleton]; show _ ≤ 140737488351232; omega)
    have hw : IntKind.i64.wrap ((((ls.map lineA).length : Nat) : Int) - 1) = ((ls.length - 1 : Nat) : Int) := by
      rw [List.length_map]
      have := wsub ls.length 1 (by omega) (by show _ ≤ 140737488351232; omega)
      exact this
    have next : ∀ (acc' : List Int), acc'.length + tot (ls.drop (i + 1)) ≤ 2000000000 → F19.s58 k (((i : Int), ended, (), (), (), (ls.length : Int), ()), (ls.map lineA, acc, ()), ()) = some (.inl ((((i + 1 : Nat) : Int), ended, (), (), (), (ls.length : Int), ()), (ls.map lineA, acc', ()), ())) → acc' ++ wholeS ended (ls.drop (i + 1)) = acc ++ wholeS ended (ls.drop i) →
        loopN (F19.s58 k) (fu + 1) (((i : Int), ended, (), (), (), (ls.length : Int), ()), (ls.map lineA, acc, ()), ()) = some (((), ()), (ls.map lineA, acc ++ wholeS ended (ls.drop i), ()), ()) := by
      intro acc' hb hgo he
      rw [loopN_inl hgo, ih (i + 1) fu acc' (by omega) hb (by omega), he]
    by_cases hlast : i < ls.length - 1
    · refine next (acc ++ ls[i] ++ [10]) (by rw [List.length_append, List.length_append, List.length_singleton]; omega) ?_ ?_
      · simp only [F19.s58, F19.go58, lt_dec hil, lt_dec hil2, dec0, Bool.true_and, cond_true, Int.toNat_natCast, hget, b1, hw, lt_dec hlast, b2, w1]
      · have hd2 : ls.drop (i + 1) = ls[i + 1] :: ls.drop (i + 2) := List.drop_eq_getElem_cons (by omega)
        rw [hd, hd2]
        simp [wholeS]
    · have dl : decide ((i : Int) < ((ls.length - 1 : Nat) : Int)) = false := decide_eq_false (by omega)
      have hd2 : ls.drop (i + 1) = [] := List.drop_eq_nil_of_le (by omega)
      rw [hd2] at next
      have hd3 : ls.drop i = [ls[i]] := by rw [hd, hd2]
      rw [hd3] at next ⊢
      cases ended
      · refine next (acc ++ ls[i]) (by rw [List.length_append]; show _ + 0 ≤ _; omega) ?_ ?_
        · simp only [F19.s58, F19.go58, lt_dec hil, lt_dec hil2, dec0, Bool.true_and, cond_true, Int.toNat_natCast, hget, b1, hw, dl, cond_false, w1]
        · simp [wholeS]
      · refine next (acc ++ ls[i] ++ [10]) (by rw [List.length_append, List.length_append, List.length_singleton]; show _ + 0 ≤ _; omega) ?_ ?_
        · simp only [F19.s58, F19.go58, lt_dec hil, lt_dec hil2, dec0, Bool.true_and, cond_true, Int.toNat_natCast, hget, b1, hw, dl, cond_false, b2, w1]
        · simp [wholeS]
theorem F19_eq (k : Nat) (ended : Bool) (ls : List (List Int)) (hn : ls.length ≤ 1048577) (ht : tot ls ≤ 2000000000) (hk : ls.length < k) : F19.go k ended (ls.map lineA) = some (((), ()), (ls.map lineA, wholeS ended ls, ()), ()) := by
  have := F19_loop k ended ls hn ls.length 0 k [] (by omega) (by rw [List.drop_zero]; simpa using ht) hk
  have e0 : ((0 : Nat) : Int) = 0 := rfl
  rw [e0, List.drop_zero, List.nil_append] at this
  unfold F19.go F19.l_58
  rw [List.length_map, this]; rfl
theorem F41_good (k : Nat) (st b : List Int) (hs : stG st) (hv : vS st = true) (hb : b.length ≤ 1048576) (hl : st.length ≤ 1048576) (hk : st.length < k) (hk2 : 2000000002 < k) (all : Bool) : F41.go k b st all = some (.inr ((((), 0, ()), ()), (V st all true 0 b, ()), ())) := by
  have ht := lines_tot b []
  simp only [List.length_nil, Nat.add_zero] at ht
  have hlen := tot_len (linesF b []).1
  have hn0 : no10 [] := fun x hx => absurd hx (List.not_mem_nil)
  have loop := F41_lines k st hs hl hk hk2 all (linesF b []).2 (linesF b []).1.length (by omega) (linesF b []).1 [] k (by simp) (fun l h => ⟨lines_no10 b [] hn0 l h, by have := tot_mem h; omega⟩) (by omega)
  have e0 : (([] : List (List Int)).length : Int) = 0 := rfl
  rw [e0, List.nil_append, List.nil_append] at loop
  have hV := tot_V hs all (linesF b []).1
  have f19 := F19_eq k (linesF b []).2 ((linesF b []).1.map (V st all true 0)) (by rw [List.length_map]; omega) (by omega) (by rw [List.length_map]; omega)
  have hw := whole_V st all b [] hn0
  rw [List.nil_append] at hw
  rw [hw] at f19
  unfold F41.go F41.l_122
  rw [F37_eq k st hl hk, Option.bind_some]
  simp only [hv, Bool.not_true, cond_false]
  rw [F16_eq k b hb (by omega), Option.bind_some]
  simp only [List.length_map]
  rw [loop, Option.bind_some]
  simp only []
  rw [f19]; rfl
theorem F41_bad (k : Nat) (st b : List Int) (all : Bool) (hv : vS st = false) (hl : st.length ≤ 1048576) (hk : st.length < k) : F41.go k b st all = some (.inl ((((), 22, ()), ()), (), ())) := by
  unfold F41.go
  rw [F37_eq k st hl hk, hv]
  rfl
end Go.Proofs.Try.S

namespace Go.Proofs.Try.S
open Go Go.Ev
theorem F12_refl (k : Nat) (l : List Int) : F12.go k l l = some ((true, ()), (), ()) := by
  unfold F12.go F52.go
  rw [Option.bind_some, beq_self_eq_true]
set_option maxHeartbeats 4000000 in
theorem F13_eq (k : Nat) : F13.go (k + 200) = some ((true, ()), (), ()) := by kernel_rfl
theorem textTabs_bad (k : Nat) (b st : List Int) (all : Bool) (hb : b.length ≤ 1048576) (hl : st.length ≤ 1048576) (hk : 2000000002 < k + 200) (hv : vS st = false) : F8.go (k + 200) b st all = some (.inl ((true, ()), (), ())) := by
  have hk' : st.length < k + 200 := by omega
  unfold F8.go
  rw [F36_eq _ st hl hk', Option.bind_some]
  simp only []
  rw [F37_eq _ st hl hk', hv, F38_bad _ st b hv hl hk', F39_bad _ st b hv hl hk', F40_bad _ st b all hv hl hk', F41_bad _ st b all hv hl hk']
  have b22 : ((22 : Int) == 22) = true := rfl
  cases bigS st <;> simp only [Option.bind_some, cond_true, cond_false, Sum.elim_inl, b22, F12_refl, F13_eq]
theorem textTabs (k : Nat) (b st : List Int) (all : Bool) (hb : b.length ≤ 1048576) (hl : st.length ≤ 1048576) (hk : 2000000002 < k + 200) : F8.go (k + 200) b st all = some (.inl ((true, ()), (), ())) := by
  have hk' : st.length < k + 200 := by omega
  cases hv : vS st
  · exact textTabs_bad k b st all hb hl hk hv
  · cases hbig : bigS st
    · have hs := stG_of hv hbig
      unfold F8.go
      rw [F36_eq _ st hl hk', Option.bind_some]
      simp only [hbig, cond_false]
      rw [F38_good _ st b hs hv hb hl hk' (by omega) (by omega), F39_good _ st b hs hv hb hl hk' (by omega) (by omega), F40_good _ st b hs hv hb hl hk' hk, F41_good _ st b hs hv hb hl hk' hk]
      have b0 : ((0 : Int) == 0) = true := rfl
      simp only [Option.bind_some, cond_true, cond_false, Sum.elim_inl, Sum.elim_inr, b0, F12_refl, F13_eq]
    · unfold F8.go
      rw [F36_eq _ st hl hk', Option.bind_some]
      simp only [hbig, cond_true]
      rw [F37_eq _ st hl hk', Option.bind_some]
      simp only [hv, cond_true]
      rw [F13_eq]; rfl
end Go.Proofs.Try.S

