/- The plain law: what the functions that the law compares make is the same, over lists and numbers alone. -/
import Derived.Test.YtoopjpccpnfeoaaDoorQuotesWalk
import Derived.Test.YtoopjpccpnfeoaaDoorEvQ5
set_option linter.unusedVariables false
set_option linter.unusedSimpArgs false
set_option linter.unusedSectionVars false
set_option maxRecDepth 100000
namespace Go.Proofs.Tryd.S
open Go Go.Ev
/-! ### small things -/
theorem loopN_inr {A B : Type} {f : A → Option (A ⊕ B)} {k : Nat} {x : A} {y : B} (h : f x = some (.inr y)) : loopN f (k + 1) x = some y := by
  unfold loopN; rw [h]
theorem loopN_inl {A B : Type} {f : A → Option (A ⊕ B)} {k : Nat} {x x' : A} (h : f x = some (.inl x')) : loopN f (k + 1) x = loopN f k x' := by
  rw [loopN, h]
/-- the most bytes that are spoken of -/
abbrev lim : Nat := 1048576
/-- rounds enough -/
abbrev KK : Nat := 2000000
theorem wadd (a b : Nat) (h : a + b ≤ 1000000000) : IntKind.i64.wrap ((a : Int) + (b : Int)) = ((a + b : Nat) : Int) := by
  rw [wrap_id (by omega) (by omega)]; omega
theorem wadd1 (a : Nat) (h : a + 1 ≤ 1000000000) : IntKind.i64.wrap ((a : Int) + 1) = ((a + 1 : Nat) : Int) := by
  rw [wrap_id (by omega) (by omega)]; omega
theorem tl_nil (a : List UInt8) : ((arr a).toList == (⟨⟨[]⟩⟩ : ByteArray).toList) = a.isEmpty := by
  rw [arr_toList, show (⟨⟨[]⟩⟩ : ByteArray).toList = [] from arr_toList []]; cases a <;> rfl
theorem dec0 (p : Nat) : decide ((0 : Int) ≤ (p : Int)) = true := decide_eq_true (by omega)
theorem ltD {i n : Nat} (h : i < n) : decide ((i : Int) < (n : Int)) = true := decide_eq_true (by omega)
theorem leD {i n : Nat} (h : i ≤ n) : decide ((i : Int) ≤ (n : Int)) = true := decide_eq_true (by omega)
theorem ltN {i n : Nat} (h : ¬ i < n) : decide ((i : Int) < (n : Int)) = false := decide_eq_false (by omega)
theorem extE (l : List UInt8) (i n : Nat) (h : n = l.length) : (arr l).extract i n = arr (l.drop i) := by subst h; exact arr_extract_size l i
def ints (l : List UInt8) : List Int := l.map fun b => ((b.toNat : Nat) : Int)
theorem strOf_ints (l : List UInt8) : strOf (ints l) = arr l := by
  unfold strOf ints arr
  rw [List.map_map]
  have : ((fun n : Int => UInt8.ofNat n.toNat) ∘ fun b : UInt8 => ((b.toNat : Nat) : Int)) = id := by
    funext b
    simp only [Function.comp, Int.toNat_natCast, id]
    exact UInt8.ofNat_toNat
  rw [this, List.map_id]
theorem ints_append (a b : List UInt8) : ints (a ++ b) = ints a ++ ints b := List.map_append
theorem ints_length (a : List UInt8) : (ints a).length = a.length := List.length_map ..
theorem ints1 (o : List UInt8) (c : UInt8) : ints o ++ [(c.toNat : Int)] = ints (o ++ [c]) := by rw [ints_append]; rfl
theorem bleM (l : List Int) (h : l.length ≤ 8000000) : (Nat.ble (l.length * 1) 140737488355328 && Nat.ble l.length 9223372036854775807) = true := by
  rw [Bool.and_eq_true, Nat.ble_eq, Nat.ble_eq]; omega
theorem catS (o : List UInt8) (n : Int) (c : UInt8) (h : n = (c.toNat : Int)) : (⟨⟨Array.toList (ByteArray.data (arr o)) ++ Array.toList (ByteArray.data (strOf [n]))⟩⟩ : ByteArray) = arr (o ++ [c]) := by
  have : strOf [n] = arr [c] := by rw [h]; exact strOf_ints [c]
  rw [this]; rfl
theorem szS (o : List UInt8) (n : Int) (h : o.length ≤ 8000000) : decide (ByteArray.size (arr o) + ByteArray.size (strOf [n]) ≤ 9223372036854775807) = true := by
  rw [arr_size, show ByteArray.size (strOf [n]) = 1 from rfl]
  exact decide_eq_true (by omega)
/-! ### Quote -/
noncomputable def pl (c : UInt8) : Bool := match F21.go KK (c.toNat : Int) with | some ((b, ()), (), ()) => b | none => false
noncomputable def chkP (n : Nat) : Bool := match F21.go KK (n : Int), F23.go KK (n : Int) with
  | some ((a, ()), (), ()), some ((b, ()), (), ()) => a == b
  | _, _ => false
theorem chkP_all : (List.range 256).all chkP = true := by kernel_rfl
theorem pl_both (c : UInt8) : F21.go KK (c.toNat : Int) = some ((pl c, ()), (), ()) ∧ F23.go KK (c.toNat : Int) = some ((pl c, ()), (), ()) := by
  have h := List.all_eq_true.1 chkP_all c.toNat (List.mem_range.2 c.toNat_lt)
  unfold chkP at h
  split at h
  · rename_i a b h1 h2
    have : a = b := by simpa using h
    subst this
    have e : pl c = a := by unfold pl; rw [h1]
    rw [e]; exact ⟨h1, h2⟩
  · cases h
abbrev N39 : List UInt8 := [39, 92, 39, 39]
/-- how a byte stands between quotes -/
def q (c : UInt8) : List UInt8 := if c = 39 then N39 else [c]
abbrev s9 (w : List UInt8) (i : Nat) (b : Bool) : ((Int × ByteArray × Bool × Int × Unit) × Unit × Unit) := (((i : Int), arr w, b, (w.length : Int), ()), (), ())
abbrev s10 (w o : List UInt8) (i : Nat) (b : Bool) : ((Int × ByteArray × ByteArray × Bool × Unit) × Unit × Unit) := (((i : Int), arr o, arr w, b, ()), (), ())
theorem F9_step (w : List UInt8) (i : Nat) (b : Bool) (h : w.length ≤ lim) (hi : i < w.length) : F9.s58 KK (s9 w i b) = some (.inl (s9 w (i + 1) (b && pl (w.getD i 0)))) := by
  show F9.go58 KK (i : Int) (arr w) b (w.length : Int) = _
  have h' : w.length ≤ 1048576 := h
  unfold F9.go58
  rw [arr_size, ltD hi, dec0, Int.toNat_natCast, arr_get, (pl_both _).1, wadd1 i (by omega)]
  cases b <;> rfl
theorem F9_end (w : List UInt8) (i : Nat) (b : Bool) (hi : ¬ i < w.length) : F9.s58 KK (s9 w i b) = some (.inr ((arr w, b, ()), (), ())) := by
  show F9.go58 KK (i : Int) (arr w) b (w.length : Int) = _
  unfold F9.go58
  rw [ltN hi]; rfl
theorem F10_step (w o : List UInt8) (i : Nat) (b : Bool) (h : w.length ≤ lim) (hi : i < w.length) (ho : o.length ≤ 8000000) : F10.s122 KK (s10 w o i b) = some (.inl (s10 w (o ++ q (w.getD i 0)) (i + 1) (b && pl (w.getD i 0)))) := by
  show F10.go122 KK (i : Int) (arr o) (arr w) b = _
  have h' : w.length ≤ 1048576 := h
  unfold F10.go122 F19.go
  rw [arr_size, ltD hi, dec0, Int.toNat_natCast, arr_get, (pl_both _).2, wadd1 i (by omega)]
  generalize w.getD i 0 = c
  have d4 : decide (ByteArray.size (arr o) + 4 ≤ 9223372036854775807) = true := by rw [arr_size]; exact decide_eq_true (by omega)
  have e4 : (⟨⟨Array.toList (ByteArray.data (arr o)) ++ N39⟩⟩ : ByteArray) = arr (o ++ N39) := rfl
  unfold q
  by_cases hc : c = 39
  · subst hc
    rw [if_pos rfl]
    cases b
    · simp only [cond_true, cond_false, Bool.and_self, Bool.false_and, d4]; rfl
    · simp only [cond_true, cond_false, Bool.and_self, Bool.true_and, d4, Option.bind_some]; rfl
  · have hb : ((c.toNat : Int) == 39) = false := by
      rw [beq_eq_false_iff_ne]
      intro e
      apply hc
      apply UInt8.toNat_inj.1
      have : (39 : UInt8).toNat = 39 := rfl
      omega
    rw [if_neg hc]
    cases b
    · simp only [cond_true, cond_false, Bool.and_self, Bool.false_and, hb, Option.bind_some]
      rw [szS o _ ho, catS o _ c rfl]; rfl
    · simp only [cond_true, cond_false, Bool.and_self, Bool.true_and, hb, Option.bind_some]
      rw [szS o _ ho, catS o _ c rfl]; rfl
theorem F10_end (w o : List UInt8) (i : Nat) (b : Bool) (hi : ¬ i < w.length) : F10.s122 KK (s10 w o i b) = some (.inr ((arr w, arr o, b, ()), (), ())) := by
  show F10.go122 KK (i : Int) (arr o) (arr w) b = _
  unfold F10.go122
  rw [arr_size, ltN hi]; rfl
theorem drop_cons (w : List UInt8) (j : Nat) (h : j < w.length) : w.drop j = w.getD j 0 :: w.drop (j + 1) := by
  rw [List.drop_eq_getElem_cons h, List.getD_eq_getElem?_getD, List.getElem?_eq_getElem h]; rfl
theorem q_len (c : UInt8) : (q c).length ≤ 4 := by unfold q; split <;> simp
theorem quote_loops (w : List UInt8) (h : w.length ≤ lim) : ∀ (m i : Nat) (o : List UInt8) (b : Bool) (k k' : Nat), w.length - i = m → o.length ≤ 4 * i + 1 → m < k → m < k' →
    loopN (F9.s58 KK) k (s9 w i b) = some ((arr w, b && (w.drop i).all pl, ()), (), ()) ∧ loopN (F10.s122 KK) k' (s10 w o i b) = some ((arr w, arr (o ++ (w.drop i).flatMap q), b && (w.drop i).all pl, ()), (), ()) := by
  have h' : w.length ≤ 1048576 := h
  intro m
  induction m with
  | zero =>
    intro i o b k k' hm ho hk hk'
    obtain ⟨k, rfl⟩ : ∃ i, k = i + 1 := ⟨k - 1, by omega⟩
    obtain ⟨k', rfl⟩ : ∃ i, k' = i + 1 := ⟨k' - 1, by omega⟩
    rw [List.drop_of_length_le (by omega : w.length ≤ i)]
    simp only [List.all_nil, Bool.and_true, List.flatMap_nil, List.append_nil]
    exact ⟨loopN_inr (F9_end w i b (by omega)), loopN_inr (F10_end w o i b (by omega))⟩
  | succ m ih =>
    intro i o b k k' hm ho hk hk'
    obtain ⟨k, rfl⟩ : ∃ i, k = i + 1 := ⟨k - 1, by omega⟩
    obtain ⟨k', rfl⟩ : ∃ i, k' = i + 1 := ⟨k' - 1, by omega⟩
    rw [loopN_inl (F9_step w i b h (by omega)), loopN_inl (F10_step w o i b h (by omega) (by omega)), drop_cons w i (by omega)]
    have := q_len (w.getD i 0)
    obtain ⟨g1, g2⟩ := ih (i + 1) (o ++ q (w.getD i 0)) (b && pl (w.getD i 0)) k k' (by omega) (by simp only [List.length_append]; omega) (by omega) (by omega)
    rw [g1, g2, List.all_cons, Bool.and_assoc, List.flatMap_cons, List.append_assoc]
    exact ⟨rfl, rfl⟩
theorem rk39 : ∀ (s : List UInt8) (f : Nat), s.length < f → Lib.replaceK [39] N39 (Lib.countFrom [39] f s) s = s.flatMap q ∧ Lib.countFrom [39] f s ≤ s.length := by
  intro s
  induction s with
  | nil =>
    intro f hf
    obtain ⟨f, rfl⟩ : ∃ i, f = i + 1 := ⟨f - 1, by omega⟩
    exact ⟨rfl, Nat.le_refl _⟩
  | cons b l ih =>
    intro f hf
    rw [List.length_cons] at hf
    obtain ⟨f, rfl⟩ : ∃ i, f = i + 1 := ⟨f - 1, by omega⟩
    by_cases hb : b = 39
    · subst hb
      have e : Lib.index (39 :: l) [39] = 0 := by
        unfold Lib.index
        have : List.isPrefixOf [(39 : UInt8)] (39 :: l) = true := by simp [List.isPrefixOf]
        rw [if_pos this]
      obtain ⟨g1, g2⟩ := ih f (by omega)
      have ec : Lib.countFrom [39] (f + 1) (39 :: l) = Lib.countFrom [39] f l + 1 := by
        rw [Lib.countFrom, e]; simp; omega
      rw [ec, Lib.replaceK, e]
      refine ⟨?_, by simp only [List.length_cons]; omega⟩
      have : q 39 = N39 := rfl
      rw [List.flatMap_cons, this, ← g1]; rfl
    · have hp : List.isPrefixOf [(39 : UInt8)] (b :: l) = false := by
        simp [List.isPrefixOf]; intro e; exact hb e.symm
      have e : Lib.index (b :: l) [39] = if Lib.index l [39] == -1 then -1 else Lib.index l [39] + 1 := by
        rw [Lib.index, hp]; rfl
      obtain ⟨g1, g2⟩ := ih (f + 1) (by omega)
      have hq : q b = [b] := by unfold q; rw [if_neg hb]
      rw [List.flatMap_cons, hq, ← g1]
      by_cases hi : Lib.index l [39] = -1
      · have ec : Lib.countFrom [39] (f + 1) (b :: l) = 0 := by rw [Lib.countFrom, e, hi]; rfl
        have ec' : Lib.countFrom [39] (f + 1) l = 0 := by rw [Lib.countFrom, hi]; rfl
        rw [ec, ec']
        exact ⟨rfl, Nat.zero_le _⟩
      · have hi' : (Lib.index l [39] == -1) = false := by rw [beq_eq_false_iff_ne]; exact hi
        rw [hi'] at e
        have e : Lib.index (b :: l) [39] = Lib.index l [39] + 1 := e
        obtain ⟨i, hn⟩ : ∃ i : Nat, Lib.index l [39] = i := by
          have : ∀ l : List UInt8, -1 ≤ Lib.index l [39] := by
            intro l
            induction l with
            | nil => simp [Lib.index]
            | cons x r ihx => rw [Lib.index]; split; omega; split <;> omega
          exact ⟨(Lib.index l [39]).toNat, by have := this l; omega⟩
        have hi2 : (Lib.index l [39] + 1 == -1) = false := by rw [beq_eq_false_iff_ne]; omega
        have ec : Lib.countFrom [39] (f + 1) (b :: l) = Lib.countFrom [39] f (l.drop (i + 1)) + 1 := by
          rw [Lib.countFrom, e, hi2, hn, show ((i : Int) + 1).toNat = i + 1 by omega]
          show 1 + Lib.countFrom [39] f ((b :: l).drop (i + 1 + 1)) = _
          rw [List.drop_succ_cons]; omega
        have ec' : Lib.countFrom [39] (f + 1) l = Lib.countFrom [39] f (l.drop (i + 1)) + 1 := by
          rw [Lib.countFrom, hi', hn, Int.toNat_natCast]
          show 1 + Lib.countFrom [39] f (l.drop (i + 1)) = _
          omega
        rw [ec'] at g2
        rw [ec, ec', Lib.replaceK, Lib.replaceK, e, hi2, hi', hn, show ((i : Int) + 1).toNat = i + 1 by omega, Int.toNat_natCast]
        refine ⟨?_, by simp only [List.length_cons]; omega⟩
        show (b :: l).take (i + 1) ++ N39 ++ Lib.replaceK [39] N39 _ ((b :: l).drop (i + 1 + 1)) = b :: (l.take i ++ N39 ++ Lib.replaceK [39] N39 _ (l.drop (i + 1)))
        rw [List.take_succ_cons, List.drop_succ_cons]; rfl
theorem replA39 (w : List UInt8) : replA (arr w) (arr [39]) (arr N39) = arr (w.flatMap q) := by
  have h := (rk39 w (w.length + 1) (by omega)).1
  have e : Lib.replaceAll w [39] N39 = w.flatMap q := by
    rw [← h]
    unfold Lib.replaceAll Lib.replace Lib.replaceNum
    rw [if_neg (by decide), if_pos (Or.inl (by decide))]; rfl
  show (⟨(Lib.replaceAll w [39] N39).toArray⟩ : ByteArray) = _
  rw [e]; rfl
/-- both quote alike -/
theorem quotes (w : List UInt8) (h : w.length ≤ lim) : ∃ o, F9.go KK (arr w) = some ((arr o, ()), (), ()) ∧ F10.go KK (arr w) = some ((arr o, ()), (), ()) := by
  have h' : w.length ≤ 1048576 := h
  obtain ⟨h1, h2⟩ := quote_loops w h _ 0 [39] (!w.isEmpty) KK KK rfl (by simp) (show w.length - 0 < 2000000 by omega) (show w.length - 0 < 2000000 by omega)
  rw [List.drop_zero] at h1 h2
  refine ⟨if (!w.isEmpty && w.all pl) = true then w else [39] ++ w.flatMap q ++ [39], ?_, ?_⟩
  · unfold F9.go F9.l_58
    rw [arr_size, show ((arr w).toList == ByteArray.toList _) = w.isEmpty from tl_nil w]
    have h1' := h1
    rw [show (0 : Int) = ((0 : Nat) : Int) from rfl, h1']
    simp only [Option.bind_some]
    cases hb : (!w.isEmpty && w.all pl)
    · have hc := (rk39 w (w.length + 1) (by omega)).2
      have hlen : (w.flatMap q).length ≤ 4 * w.length := by
        clear h h1 h2 h1' hb hc h'
        induction w with
        | nil => simp
        | cons x r ih => rw [List.flatMap_cons, List.length_append, List.length_cons]; have := q_len x; omega
      have c1 : (decide (ByteArray.size (arr w) < 4294967281) && decide (ByteArray.size (arr w) + Lib.countFrom [39] (w.length + 1) w * 4 ≤ 140737488355328)) = true := by
        rw [arr_size, Bool.and_eq_true, decide_eq_true_eq, decide_eq_true_eq]; omega
      have c2 : decide (1 + ByteArray.size (replA (arr w) (arr [39]) (arr N39)) ≤ 9223372036854775807) = true := by
        rw [replA39, arr_size]; exact decide_eq_true (by omega)
      have c3 : decide (ByteArray.size (arr ([39] ++ w.flatMap q)) + 1 ≤ 9223372036854775807) = true := by
        rw [arr_size]; exact decide_eq_true (by simp only [List.length_append, List.length_cons, List.length_nil]; omega)
      have key : (bif (decide (ByteArray.size (arr w) < 4294967281) && decide (ByteArray.size (arr w) + Lib.countFrom [39] (w.length + 1) w * 4 ≤ 140737488355328)) then
          bif decide (1 + ByteArray.size (replA (arr w) (arr [39]) (arr N39)) ≤ 9223372036854775807) then
          bif decide (ByteArray.size (arr ([39] ++ (replA (arr w) (arr [39]) (arr N39)).data.toList)) + 1 ≤ 9223372036854775807) then
            some ((arr (([39] ++ (replA (arr w) (arr [39]) (arr N39)).data.toList) ++ [39]), ()), (), ()) else none else none else none) = some ((arr ([39] ++ w.flatMap q ++ [39]), ()), (), ()) := by
        rw [c1, c2, replA39]
        show (bif decide (ByteArray.size (arr ([39] ++ w.flatMap q)) + 1 ≤ 9223372036854775807) then _ else _) = _
        rw [c3]; rfl
      exact key
    · rfl
  · unfold F10.go F10.l_122
    rw [show ((arr w).toList == ByteArray.toList _) = w.isEmpty from tl_nil w]
    have h2' : loopN (F10.s122 KK) KK ((0, arr [39], arr w, !w.isEmpty, ()), (), ()) = _ := h2
    have e : ∀ x, x = some ((arr w, arr ([39] ++ w.flatMap q), !w.isEmpty && w.all pl, ()), (), ()) → Option.bind x (fun (y2 : (ByteArray × ByteArray × Bool × PUnit) × PUnit × PUnit) => bif y2.1.2.2.1 then some ((y2.1.1, ()), (), ()) else bif decide (ByteArray.size y2.1.2.1 + 1 ≤ 9223372036854775807) then some (((⟨⟨y2.1.2.1.data.toList ++ [39]⟩⟩ : ByteArray), ()), (), ()) else none) = some ((arr (if (!w.isEmpty && w.all pl) = true then w else [39] ++ w.flatMap q ++ [39]), ()), (), ()) := by
      rintro x rfl
      simp only [Option.bind_some]
      cases hb : (!w.isEmpty && w.all pl)
      · have hlen : (w.flatMap q).length ≤ 4 * w.length := by
          clear h h1 h2 h2' hb h'
          induction w with
          | nil => simp
          | cons x r ih => rw [List.flatMap_cons, List.length_append, List.length_cons]; have := q_len x; omega
        have c3 : decide (ByteArray.size (arr ([39] ++ w.flatMap q)) + 1 ≤ 9223372036854775807) = true := by
          rw [arr_size]; exact decide_eq_true (by simp only [List.length_append, List.length_cons, List.length_nil]; omega)
        rw [c3]; rfl
      · rfl
    exact e _ h2'
end Go.Proofs.Tryd.S

namespace Go.Proofs.Tryd.S
open Go Go.Ev
/-! ### between quotes -/
abbrev D4 : List UInt8 := [34, 92, 36, 96]
def sp (c : UInt8) : Bool := decide (ixS (arr D4) (c.toNat : Int) ≥ 0)
noncomputable def chkD (n : Nat) : Bool := match F20.go KK (n : Int) (arr D4) with
  | some ((j, ()), (), ()) => decide (j ≥ 0) == decide (ixS (arr D4) (n : Int) ≥ 0)
  | _ => false
theorem chkD_all : (List.range 256).all chkD = true := by kernel_rfl
theorem sp_both (c : UInt8) : ∃ j, F20.go KK (c.toNat : Int) (arr D4) = some ((j, ()), (), ()) ∧ decide (j ≥ 0) = sp c := by
  have h := List.all_eq_true.1 chkD_all c.toNat (List.mem_range.2 c.toNat_lt)
  unfold chkD at h
  split at h
  · rename_i j h1
    exact ⟨j, h1, by simpa [sp] using h⟩
  · cases h
theorem toI (c : UInt8) (n : Nat) (d : UInt8) (hd : d.toNat = n) : ((c.toNat : Int) == (n : Int)) = (c == d) := by
  by_cases h : c = d
  · subst h; rw [hd]; simp
  · have : c.toNat ≠ n := fun e => h (UInt8.toNat_inj.1 (e.trans hd.symm))
    rw [beq_eq_false_iff_ne.2 h, beq_eq_false_iff_ne]; omega
theorem i34 (c : UInt8) : ((c.toNat : Int) == 34) = (c == 34) := toI c 34 34 rfl
theorem i92 (c : UInt8) : ((c.toNat : Int) == 92) = (c == 92) := toI c 92 92 rfl
theorem i39 (c : UInt8) : ((c.toNat : Int) == 39) = (c == 39) := toI c 39 39 rfl
theorem i32 (c : UInt8) : ((c.toNat : Int) == 32) = (c == 32) := toI c 32 32 rfl
theorem i9 (c : UInt8) : ((c.toNat : Int) == 9) = (c == 9) := toI c 9 9 rfl
theorem i10 (c : UInt8) : ((c.toNat : Int) == 10) = (c == 10) := toI c 10 10 rfl
theorem n34 (c : UInt8) : ((c.toNat : Int) != 34) = !(c == 34) := by rw [bne, i34]
theorem n32 (c : UInt8) : ((c.toNat : Int) != 32) = !(c == 32) := by rw [bne, i32]
theorem n9 (c : UInt8) : ((c.toNat : Int) != 9) = !(c == 9) := by rw [bne, i9]
theorem n10 (c : UInt8) : ((c.toNat : Int) != 10) = !(c == 10) := by rw [bne, i10]
/-- one step between double quotes: what is added, and where it goes on -/
def dq (r : List UInt8) (j : Nat) : Option (List UInt8 × Nat) :=
  if j < r.length ∧ (r.getD j 0 == 34) = false then
    (if (r.getD j 0 == 92) = true ∧ j + 1 < r.length ∧ sp (r.getD (j + 1) 0) = true then some ([r.getD (j + 1) 0], j + 2) else some ([r.getD j 0], j + 1))
  else none
structure J18 where
  a2 : Bool
  a3 : Int
  a4 : ByteArray
  a5 : Int
  a6 : Bool
  a7 : Int
  a8 : ByteArray
  a9 : Int
  a10 : Bool
  a11 : Int
  a12 : ByteArray
  a13 : Int
theorem F18_dq (r o : List UInt8) (j : Nat) (J : J18) (h : r.length ≤ lim) (ho : o.length ≤ 7000000) : F18.s1975794 KK ((arr r, (), (j : Int), J.a2, J.a3, J.a4, J.a5, J.a6, J.a7, J.a8, J.a9, J.a10, J.a11, J.a12, J.a13, ()), (ints o, ()), ()) =
    match dq r j with
    | some (a, j') => some (.inl ((arr r, (), (j' : Int), J.a2, J.a3, J.a4, J.a5, J.a6, J.a7, J.a8, J.a9, J.a10, J.a11, J.a12, J.a13, ()), (ints (o ++ a), ()), ()))
    | none => some (.inr ((arr r, (), J.a2, J.a3, J.a4, J.a5, J.a6, J.a7, J.a8, J.a9, J.a10, J.a11, J.a12, J.a13, (j : Int), ()), (ints o, ()), ())) := by
  show F18.go1975794 KK (arr r) (j : Int) J.a2 J.a3 J.a4 J.a5 J.a6 J.a7 J.a8 J.a9 J.a10 J.a11 J.a12 J.a13 (ints o) = _
  have h' : r.length ≤ 1048576 := h
  have hM : ∀ c : UInt8, (Nat.ble ((ints (o ++ [c])).length * 1) 140737488355328 && Nat.ble (ints (o ++ [c])).length 9223372036854775807) = true := fun c => bleM _ (by rw [ints_length, List.length_append]; simp; omega)
  unfold F18.go1975794 F31.go F41.go dq
  rw [arr_size]
  by_cases hj : j < r.length
  · rw [ltD hj, dec0, Int.toNat_natCast, arr_get, n34, i92, wadd1 j (by omega), ints1 o (r.getD j 0), hM (r.getD j 0)]
    cases h34 : r.getD j 0 == 34
    · rw [if_pos ⟨hj, rfl⟩]
      simp only [cond_true, Bool.and_self, Bool.not_false]
      cases h92 : r.getD j 0 == 92
      · rw [if_neg (by simp)]; rfl
      · by_cases hj1 : j + 1 < r.length
        · rw [ltD hj1, dec0, Int.toNat_natCast, arr_get, wadd1 (j + 1) (by omega), ints1 o (r.getD (j + 1) 0), hM (r.getD (j + 1) 0)]
          have hs : decide (ixS (arr D4) ((r.getD (j + 1) 0).toNat : Int) ≥ 0) = sp (r.getD (j + 1) 0) := rfl
          simp only [cond_true, Bool.and_self, Option.bind_some]
          show (bif decide (ixS (arr D4) ((r.getD (j + 1) 0).toNat : Int) ≥ 0) then _ else _) = _
          rw [hs]
          cases hsp : sp (r.getD (j + 1) 0)
          · rw [if_neg (by simp)]; rfl
          · rw [if_pos ⟨trivial, hj1, rfl⟩]; rfl
        · rw [ltN hj1, if_neg (by rintro ⟨_, g, _⟩; exact hj1 g)]; rfl
    · rw [if_neg (by simp)]; rfl
  · rw [ltN hj, if_neg (by rintro ⟨g, _⟩; exact hj g)]; rfl
structure J7 where
  a4 : Bool
  a5 : Int
  a6 : Bool
  a7 : Int
theorem dropD (w : List UInt8) (j p : Nat) : (w.drop j).getD p 0 = w.getD (j + p) 0 := by
  rw [List.getD_eq_getElem?_getD, List.getD_eq_getElem?_getD, List.getElem?_drop]
theorem F7_dq (w o : List UInt8) (i j : Nat) (ws : List ByteArray) (J : J7) (h : w.length ≤ lim) (ho : o.length ≤ 7000000) : F7.s8014322 KK ((arr w, arr o, ((i + j : Nat) : Int), 34, (), J.a4, J.a5, J.a6, J.a7, ()), (ws, ()), ()) =
    match dq (w.drop i) j with
    | some (a, j') => some (.inl ((arr w, arr (o ++ a), ((i + j' : Nat) : Int), 34, (), J.a4, J.a5, J.a6, J.a7, ()), (ws, ()), ()))
    | none => some (.inr ((arr o, (), arr w, J.a4, J.a5, J.a6, J.a7, ((i + j : Nat) : Int), ()), (ws, ()), ())) := by
  show F7.go8014322 KK (arr w) (arr o) ((i + j : Nat) : Int) 34 J.a4 J.a5 J.a6 J.a7 ws = _
  have h' : w.length ≤ 1048576 := h
  unfold F7.go8014322 F19.go dq
  rw [arr_size, dropD, dropD, List.length_drop]
  by_cases hj : i + j < w.length
  · rw [ltD hj, dec0, Int.toNat_natCast, arr_get, n34, i92, wadd1 (i + j) (by omega)]
    cases h34 : w.getD (i + j) 0 == 34
    · rw [if_pos ⟨by omega, rfl⟩]
      simp only [cond_true, Bool.and_self, Bool.not_false, Option.bind_some, beq_self_eq_true]
      rw [szS o ((w.getD (i + j) 0).toNat : Int) (by omega), catS o _ (w.getD (i + j) 0) rfl]
      cases h92 : w.getD (i + j) 0 == 92
      · rw [if_neg (by simp)]; rfl
      · by_cases hj1 : i + j + 1 < w.length
        · obtain ⟨x, hx, hx2⟩ := sp_both (w.getD (i + j + 1) 0)
          rw [ltD hj1, dec0, Int.toNat_natCast, arr_get, wadd1 (i + j + 1) (by omega), szS o ((w.getD (i + j + 1) 0).toNat : Int) (by omega), catS o _ (w.getD (i + j + 1) 0) rfl]
          have hx' : F20.go KK ((w.getD (i + j + 1) 0).toNat : Int) (arr [34, 92, 36, 96]) = some ((x, ()), (), ()) := hx
          simp only [cond_true, Bool.and_self]
          show Option.bind (F20.go KK ((w.getD (i + j + 1) 0).toNat : Int) (arr [34, 92, 36, 96])) _ = _
          rw [hx']
          simp only [Option.bind_some]
          rw [hx2, show i + (j + 1) = i + j + 1 by omega]
          cases hsp : sp (w.getD (i + j + 1) 0)
          · rw [if_neg (by simp)]; rfl
          · rw [if_pos ⟨trivial, by omega, rfl⟩]; rfl
        · rw [ltN hj1, if_neg (by rintro ⟨_, g, _⟩; omega)]; rfl
    · rw [if_neg (by simp)]; rfl
  · rw [ltN hj, if_neg (by rintro ⟨g, _⟩; omega)]; rfl
theorem dq_some {r : List UInt8} {j j' : Nat} {a : List UInt8} (h : dq r j = some (a, j')) : j < j' ∧ j' ≤ r.length ∧ a.length = 1 := by
  unfold dq at h
  split at h
  · rename_i g
    split at h
    · rename_i g2
      injection h with h; injection h with h1 h2; subst h1; subst h2
      exact ⟨by omega, by omega, rfl⟩
    · injection h with h; injection h with h1 h2; subst h1; subst h2
      exact ⟨by omega, by omega, rfl⟩
  · cases h
/-- both walks between double quotes -/
theorem dq_loops (w : List UInt8) (i : Nat) (h : w.length ≤ lim) (hi : i ≤ w.length) (J : J18) (J' : J7) (ws : List ByteArray) : ∀ (m j : Nat) (o : List UInt8) (k k' : Nat), (w.drop i).length - j ≤ m → o.length ≤ j → j ≤ (w.drop i).length → m < k → m < k' →
    ∃ (j' : Nat) (o' : List UInt8), j ≤ j' ∧ j' ≤ (w.drop i).length ∧ o'.length ≤ j' ∧
      loopN (F18.s1975794 KK) k ((arr (w.drop i), (), (j : Int), J.a2, J.a3, J.a4, J.a5, J.a6, J.a7, J.a8, J.a9, J.a10, J.a11, J.a12, J.a13, ()), (ints o, ()), ()) =
        some ((arr (w.drop i), (), J.a2, J.a3, J.a4, J.a5, J.a6, J.a7, J.a8, J.a9, J.a10, J.a11, J.a12, J.a13, (j' : Int), ()), (ints o', ()), ()) ∧
      loopN (F7.s8014322 KK) k' ((arr w, arr o, ((i + j : Nat) : Int), 34, (), J'.a4, J'.a5, J'.a6, J'.a7, ()), (ws, ()), ()) =
        some ((arr o', (), arr w, J'.a4, J'.a5, J'.a6, J'.a7, ((i + j' : Nat) : Int), ()), (ws, ()), ()) := by
  have h' : w.length ≤ 1048576 := h
  have hl : (w.drop i).length ≤ 1048576 := by rw [List.length_drop]; omega
  intro m
  induction m with
  | zero =>
    intro j o k k' hm ho hj hk hk'
    obtain ⟨k, rfl⟩ : ∃ i, k = i + 1 := ⟨k - 1, by omega⟩
    obtain ⟨k', rfl⟩ : ∃ i, k' = i + 1 := ⟨k' - 1, by omega⟩
    have hd : dq (w.drop i) j = none := by unfold dq; rw [if_neg (by rintro ⟨g, _⟩; omega)]
    have s1 := F18_dq (w.drop i) o j J hl (by omega)
    have s2 := F7_dq w o i j ws J' h (by omega)
    rw [hd] at s1 s2
    exact ⟨j, o, Nat.le_refl _, hj, ho, loopN_inr s1, loopN_inr s2⟩
  | succ m ih =>
    intro j o k k' hm ho hj hk hk'
    obtain ⟨k, rfl⟩ : ∃ i, k = i + 1 := ⟨k - 1, by omega⟩
    obtain ⟨k', rfl⟩ : ∃ i, k' = i + 1 := ⟨k' - 1, by omega⟩
    have s1 := F18_dq (w.drop i) o j J hl (by omega)
    have s2 := F7_dq w o i j ws J' h (by omega)
    cases hd : dq (w.drop i) j with
    | none =>
      rw [hd] at s1 s2
      exact ⟨j, o, Nat.le_refl _, hj, ho, loopN_inr s1, loopN_inr s2⟩
    | some x =>
      obtain ⟨a, j2⟩ := x
      rw [hd] at s1 s2
      obtain ⟨g1, g2, g3⟩ := dq_some hd
      rw [loopN_inl s1, loopN_inl s2]
      obtain ⟨j', o', e1, e2, e3, e4, e5⟩ := ih j2 (o ++ a) k k' (by omega) (by rw [List.length_append]; omega) g2 (by omega) (by omega)
      exact ⟨j', o', by omega, e2, e3, e4, e5⟩
end Go.Proofs.Tryd.S

namespace Go.Proofs.Tryd.S
open Go Go.Ev
theorem n39 (c : UInt8) : ((c.toNat : Int) != 39) = !(c == 39) := by rw [bne, i39]
theorem ixN : ∀ l : List UInt8, (Lib.indexByte l 39 = -1 ∧ ∀ m, m < l.length → (l.getD m 0 == 39) = false) ∨
    ∃ n : Nat, n < l.length ∧ Lib.indexByte l 39 = (n : Int) ∧ (l.getD n 0 == 39) = true ∧ ∀ m, m < n → (l.getD m 0 == 39) = false
  | [] => .inl ⟨rfl, fun m hm => by simp at hm⟩
  | b :: l => by
    unfold Lib.indexByte
    cases hb : b == 39
    · rcases ixN l with ⟨h1, h2⟩ | ⟨n, h1, h2, h3, h4⟩
      · left
        rw [h1]
        refine ⟨rfl, fun m hm => ?_⟩
        cases m with
        | zero => simpa using hb
        | succ m => rw [List.getD_cons_succ]; exact h2 m (by simpa using hm)
      · right
        have e : (Lib.indexByte l 39 == -1) = false := by rw [beq_eq_false_iff_ne]; omega
        refine ⟨n + 1, by simp; omega, ?_, by rw [List.getD_cons_succ]; exact h3, fun m hm => ?_⟩
        · rw [e, h2]; simp
        · cases m with
          | zero => simpa using hb
          | succ m => rw [List.getD_cons_succ]; exact h4 m (by omega)
    · right
      exact ⟨0, by simp, by simp, by simpa using hb, fun m hm => by omega⟩
theorem F7_sq (w o : List UInt8) (p : Nat) (ws : List ByteArray) (J : J7) (h : w.length ≤ lim) (ho : o.length ≤ 7000000) : F7.s8014322 KK ((arr w, arr o, (p : Int), 39, (), J.a4, J.a5, J.a6, J.a7, ()), (ws, ()), ()) =
    if p < w.length ∧ (w.getD p 0 == 39) = false then some (.inl ((arr w, arr (o ++ [w.getD p 0]), ((p + 1 : Nat) : Int), 39, (), J.a4, J.a5, J.a6, J.a7, ()), (ws, ()), ()))
    else some (.inr ((arr o, (), arr w, J.a4, J.a5, J.a6, J.a7, (p : Int), ()), (ws, ()), ())) := by
  show F7.go8014322 KK (arr w) (arr o) (p : Int) 39 J.a4 J.a5 J.a6 J.a7 ws = _
  have h' : w.length ≤ 1048576 := h
  unfold F7.go8014322 F19.go
  rw [arr_size]
  by_cases hj : p < w.length
  · rw [ltD hj, dec0, Int.toNat_natCast, arr_get, n39, wadd1 p (by omega)]
    simp only [Option.bind_some]
    rw [szS o ((w.getD p 0).toNat : Int) (by omega), catS o _ (w.getD p 0) rfl]
    cases h39 : w.getD p 0 == 39
    · rw [if_pos ⟨hj, rfl⟩]; rfl
    · rw [if_neg (by simp)]; rfl
  · rw [ltN hj, if_neg (by rintro ⟨g, _⟩; exact hj g)]; rfl
theorem sq_loop (w : List UInt8) (ws : List ByteArray) (J : J7) (h : w.length ≤ lim) : ∀ (n p : Nat) (o : List UInt8) (k : Nat), (∀ m, m < n → (w.getD (p + m) 0 == 39) = false) → p + n ≤ w.length → (p + n = w.length ∨ (w.getD (p + n) 0 == 39) = true) → o.length ≤ p → n < k →
    loopN (F7.s8014322 KK) k ((arr w, arr o, (p : Int), 39, (), J.a4, J.a5, J.a6, J.a7, ()), (ws, ()), ()) = some ((arr (o ++ (w.drop p).take n), (), arr w, J.a4, J.a5, J.a6, J.a7, ((p + n : Nat) : Int), ()), (ws, ()), ()) := by
  have h' : w.length ≤ 1048576 := h
  intro n
  induction n with
  | zero =>
    intro p o k h1 h2 h3 ho hk
    obtain ⟨k, rfl⟩ : ∃ i, k = i + 1 := ⟨k - 1, by omega⟩
    have s := F7_sq w o p ws J h (by omega)
    rw [if_neg (by
      rintro ⟨g1, g2⟩
      rcases h3 with h3 | h3
      · omega
      · rw [Nat.add_zero, g2] at h3; cases h3)] at s
    rw [loopN_inr s, List.take_zero, List.append_nil]; rfl
  | succ n ih =>
    intro p o k h1 h2 h3 ho hk
    obtain ⟨k, rfl⟩ : ∃ i, k = i + 1 := ⟨k - 1, by omega⟩
    have s := F7_sq w o p ws J h (by omega)
    rw [if_pos ⟨by omega, by have := h1 0 (by omega); exact this⟩] at s
    rw [loopN_inl s, ih (p + 1) _ k (fun m hm => by have := h1 (m + 1) (by omega); rw [show p + 1 + m = p + (m + 1) by omega]; exact this) (by omega)
      (by rw [show p + 1 + n = p + (n + 1) by omega]; exact h3) (by simp only [List.length_append, List.length_cons, List.length_nil]; omega) (by omega), drop_cons w p (by omega), List.take_succ_cons, List.append_assoc, show p + 1 + n = p + (n + 1) by omega]
    rfl
abbrev sW (r o : List UInt8) (j : Nat) : ((ByteArray × Unit × Int × Unit) × (List Int × Unit) × Unit) := ((arr r, (), (j : Int), ()), (ints o, ()), ())
abbrev sV (w o : List UInt8) (p : Nat) (opn : Bool) (ws : List ByteArray) : ((Int × ByteArray × Unit × Bool × ByteArray × Unit) × (List ByteArray × Unit) × Unit) := (((p : Int), arr o, (), opn, arr w, ()), (ws, ()), ())
def isB (c : UInt8) : Bool := c == 32 || (c == 9 || c == 10)
def WStep (w : List UInt8) (i j : Nat) (o : List UInt8) (opn : Bool) (ws : List ByteArray) : Prop :=
  (∃ (j' : Nat) (o' : List UInt8), j < j' ∧ j' ≤ (w.drop i).length ∧ o'.length ≤ j' ∧ F18.s60 KK (sW (w.drop i) o j) = some (.inl (sW (w.drop i) o' j')) ∧ F7.s122 KK (sV w o (i + j) opn ws) = some (.inl (sV w o' (i + j') true ws))) ∨
  (F18.s60 KK (sW (w.drop i) o j) = some (.inr (.inl ((arr [], 0, false, ()), (), ()))) ∧ F7.s122 KK (sV w o (i + j) opn ws) = some (.inr (.inl (((), 22, ()), (), ()))))
theorem lenD (w : List UInt8) (i : Nat) (h : i ≤ w.length) : (w.drop i).length + i = w.length := by rw [List.length_drop]; omega
theorem wstep (w : List UInt8) (i j : Nat) (o : List UInt8) (opn : Bool) (ws : List ByteArray) (h : w.length ≤ lim) (hi : i ≤ w.length) (hj : j < (w.drop i).length) (ho : o.length ≤ j) (hb : isB (w.getD (i + j) 0) = false) : WStep w i j o opn ws := by
  have h' : w.length ≤ 1048576 := h
  have hl := lenD w i hi
  unfold isB at hb
  rw [Bool.or_eq_false_iff, Bool.or_eq_false_iff] at hb
  obtain ⟨b32, b9, b10⟩ := hb
  have e1 : F18.s60 KK (sW (w.drop i) o j) = F18.go60 KK (arr (w.drop i)) (j : Int) (ints o) := rfl
  have e2 : F7.s122 KK (sV w o (i + j) opn ws) = F7.go122 KK ((i + j : Nat) : Int) (arr o) opn (arr w) ws := rfl
  unfold WStep
  rw [e1, e2]
  unfold F18.go60 F7.go122 F31.go F41.go F19.go
  have hj2 : i + j < w.length := by omega
  have hM : ∀ c : UInt8, (Nat.ble ((ints (o ++ [c])).length * 1) 140737488355328 && Nat.ble (ints (o ++ [c])).length 9223372036854775807) = true := fun c => bleM _ (by rw [ints_length, List.length_append]; simp; omega)
  rw [arr_size, arr_size, ltD hj, ltD hj2, dec0 j, dec0 (i + j), Int.toNat_natCast j, Int.toNat_natCast (i + j), arr_get (w.drop i) j, arr_get w (i + j), dropD w i j, n32 (w.getD (i + j) 0), n9 (w.getD (i + j) 0), n10 (w.getD (i + j) 0), i32 (w.getD (i + j) 0), i9 (w.getD (i + j) 0), i10 (w.getD (i + j) 0), i92 (w.getD (i + j) 0), i39 (w.getD (i + j) 0), i34 (w.getD (i + j) 0), b32, b9, b10]
  simp only [cond_true, cond_false, Bool.and_self, Bool.not_false, Option.bind_some]
  cases h92 : w.getD (i + j) 0 == 92
  · simp only [cond_false]
    cases h39 : w.getD (i + j) 0 == 39
    · simp only [cond_false]
      cases h34 : w.getD (i + j) 0 == 34
      · left
        refine ⟨j + 1, o ++ [w.getD (i + j) 0], by omega, by omega, by simp; omega, ?_, ?_⟩
        · rw [ints1 o (w.getD (i + j) 0), hM (w.getD (i + j) 0), wadd1 j (by omega)]; rfl
        · rw [szS o ((w.getD (i + j) 0).toNat : Int) (by omega), catS o _ (w.getD (i + j) 0) rfl, wadd1 (i + j) (by omega)]; rfl
      · simp only [cond_true]
        have hc : w.getD (i + j) 0 = 34 := by simpa using h34
        have hcI : ((w.getD (i + j) 0).toNat : Int) = 34 := by rw [hc]; rfl
        obtain ⟨j', o', g1, g2, g3, g4, g5⟩ := dq_loops w i h hi ⟨true, ((w.getD (i + j) 0).toNat : Int), arr (w.drop i), (j : Int), true, ((w.getD (i + j) 0).toNat : Int), arr (w.drop i), (j : Int), true, ((w.getD (i + j) 0).toNat : Int), arr (w.drop i), (j : Int)⟩ ⟨false, ((w.getD (i + j) 0).toNat : Int), false, ((w.getD (i + j) 0).toNat : Int)⟩ ws (w.drop i).length (j + 1) o KK KK (by omega) (by omega) (by omega) (show _ < 2000000 by omega) (show _ < 2000000 by omega)
        rw [wadd1 j (by omega), wadd1 (i + j) (by omega)]
        unfold F18.l_1975794 F7.l_8014322
        have g5' : loopN (F7.s8014322 KK) KK ((arr w, arr o, ((i + j + 1 : Nat) : Int), ((w.getD (i + j) 0).toNat : Int), (), false, ((w.getD (i + j) 0).toNat : Int), false, ((w.getD (i + j) 0).toNat : Int), ()), (ws, ()), ()) = some ((arr o', (), arr w, false, ((w.getD (i + j) 0).toNat : Int), false, ((w.getD (i + j) 0).toNat : Int), ((i + j' : Nat) : Int), ()), (ws, ()), ()) := by
          rw [show i + j + 1 = i + (j + 1) by omega]
          conv => lhs; rw [show (((w.getD (i + j) 0).toNat : Int), (), false, ((w.getD (i + j) 0).toNat : Int), false, ((w.getD (i + j) 0).toNat : Int), ()) = ((34 : Int), (), false, ((w.getD (i + j) 0).toNat : Int), false, ((w.getD (i + j) 0).toNat : Int), ()) from by rw [hcI]]
          exact g5
        rw [g4, g5']
        simp only [Option.bind_some]
        by_cases hend : j' = (w.drop i).length
        · right
          have c1 : ((j' : Int) == ((arr (w.drop i)).size : Int)) = true := by rw [arr_size, beq_iff_eq]; omega
          have c2 : (((i + j' : Nat) : Int) == ((arr w).size : Int)) = true := by rw [arr_size, beq_iff_eq]; omega
          rw [c1, c2]
          exact ⟨rfl, rfl⟩
        · left
          have c1 : ((j' : Int) == ((arr (w.drop i)).size : Int)) = false := by rw [arr_size, beq_eq_false_iff_ne]; omega
          have c2 : (((i + j' : Nat) : Int) == ((arr w).size : Int)) = false := by rw [arr_size, beq_eq_false_iff_ne]; omega
          rw [c1, c2, wadd1 j' (by omega), wadd1 (i + j') (by omega)]
          exact ⟨j' + 1, o', by omega, by omega, by omega, rfl, rfl⟩
    · simp only [cond_true]
      have hc : w.getD (i + j) 0 = 39 := by simpa using h39
      have hcI : ((w.getD (i + j) 0).toNat : Int) = 39 := by rw [hc]; rfl
      rw [wadd1 j (by omega), wadd1 (i + j) (by omega), dec0, leD (by omega : j + 1 ≤ (w.drop i).length), Int.toNat_natCast, extE (w.drop i) (j + 1) _ rfl, List.drop_drop]
      have hix : ixS (arr (w.drop (i + (j + 1)))) 39 = Lib.indexByte (w.drop (i + (j + 1))) 39 := rfl
      rw [hix]
      unfold F7.l_8014322
      simp only [cond_true, Bool.and_self]
      have hl2 : (w.drop (i + (j + 1))).length + (i + (j + 1)) = w.length := lenD w _ (by omega)
      have sql : ∀ n, (∀ m, m < n → (w.getD (i + (j + 1) + m) 0 == 39) = false) → i + (j + 1) + n ≤ w.length → (i + (j + 1) + n = w.length ∨ (w.getD (i + (j + 1) + n) 0 == 39) = true) →
          loopN (F7.s8014322 KK) KK ((arr w, arr o, ((i + j + 1 : Nat) : Int), ((w.getD (i + j) 0).toNat : Int), (), false, ((w.getD (i + j) 0).toNat : Int), false, ((w.getD (i + j) 0).toNat : Int), ()), (ws, ()), ()) =
            some ((arr (o ++ (w.drop (i + (j + 1))).take n), (), arr w, false, ((w.getD (i + j) 0).toNat : Int), false, ((w.getD (i + j) 0).toNat : Int), ((i + (j + 1) + n : Nat) : Int), ()), (ws, ()), ()) := by
        intro n a1 a2 a3
        have := sq_loop w ws ⟨false, ((w.getD (i + j) 0).toNat : Int), false, ((w.getD (i + j) 0).toNat : Int)⟩ h n (i + (j + 1)) o KK a1 a2 a3 (by omega) (show n < 2000000 by omega)
        rw [show i + j + 1 = i + (j + 1) by omega]
        conv => lhs; rw [show (((w.getD (i + j) 0).toNat : Int), (), false, ((w.getD (i + j) 0).toNat : Int), false, ((w.getD (i + j) 0).toNat : Int), ()) = ((39 : Int), (), false, ((w.getD (i + j) 0).toNat : Int), false, ((w.getD (i + j) 0).toNat : Int), ()) from by rw [hcI]]
        exact this
      rcases ixN (w.drop (i + (j + 1))) with ⟨h1, h2⟩ | ⟨n, h1, h2, h3, h4⟩
      · right
        rw [h1, sql (w.drop (i + (j + 1))).length (fun m hm => by have := h2 m hm; rw [dropD] at this; exact this) (by omega) (.inl (by omega))]
        simp only [Option.bind_some]
        have c2 : (((i + (j + 1) + (w.drop (i + (j + 1))).length : Nat) : Int) == ((arr w).size : Int)) = true := by rw [arr_size, beq_iff_eq]; omega
        rw [c2]
        exact ⟨rfl, rfl⟩
      · left
        rw [dropD] at h3
        have a1 : ∀ m, m < n → (w.getD (i + (j + 1) + m) 0 == 39) = false := fun m hm => by have := h4 m hm; rw [dropD] at this; exact this
        rw [h2, sql n a1 (by omega) (.inr h3)]
        simp only [Option.bind_some]
        have c1 : decide ((n : Int) < 0) = false := decide_eq_false (by omega)
        have c2 : (((i + (j + 1) + n : Nat) : Int) == ((arr w).size : Int)) = false := by rw [arr_size, beq_eq_false_iff_ne]; omega
        rw [c1, c2, wadd (j + 1) n (by omega), dec0, leD (by omega : j + 1 + n ≤ (w.drop i).length), leD (by omega : j + 1 ≤ j + 1 + n), Int.toNat_natCast, arr_extract, show j + 1 + n - (j + 1) = n by omega, List.drop_drop, wadd1 n (by omega), wadd j (n + 1) (by omega), wadd1 (j + (n + 1)) (by omega), wadd1 (i + (j + 1) + n) (by omega)]
        have eb : ints o ++ bytesOf (arr ((w.drop (i + (j + 1))).take n)) = ints (o ++ (w.drop (i + (j + 1))).take n) := (ints_append _ _).symm
        have lt : ((w.drop (i + (j + 1))).take n).length ≤ n := List.length_take_le _ _
        rw [eb, bleM _ (by rw [ints_length, List.length_append]; omega)]
        refine ⟨j + (n + 1) + 1, o ++ (w.drop (i + (j + 1))).take n, by omega, by omega, by rw [List.length_append]; omega, rfl, ?_⟩
        rw [show i + (j + 1) + n + 1 = i + (j + (n + 1) + 1) by omega]; rfl
  · simp only [cond_true]
    rw [wadd1 j (by omega), wadd1 (i + j) (by omega)]
    by_cases hend : j + 1 = (w.drop i).length
    · right
      have c1 : (((j + 1 : Nat) : Int) == ((w.drop i).length : Int)) = true := by rw [beq_iff_eq]; omega
      have c2 : (((i + j + 1 : Nat) : Int) == (w.length : Int)) = true := by rw [beq_iff_eq]; omega
      rw [c1, c2]
      exact ⟨rfl, rfl⟩
    · left
      have c1 : (((j + 1 : Nat) : Int) == ((w.drop i).length : Int)) = false := by rw [beq_eq_false_iff_ne]; omega
      have c2 : (((i + j + 1 : Nat) : Int) == (w.length : Int)) = false := by rw [beq_eq_false_iff_ne]; omega
      rw [c1, c2, dec0 (j + 1), dec0 (i + j + 1), ltD (by omega : j + 1 < (w.drop i).length), ltD (by omega : i + j + 1 < w.length), Int.toNat_natCast (j + 1), Int.toNat_natCast (i + j + 1), arr_get (w.drop i) (j + 1), arr_get w (i + j + 1), dropD w i (j + 1), wadd1 (j + 1) (by omega), wadd1 (i + j + 1) (by omega), show i + (j + 1) = i + j + 1 by omega,
        ints1 o (w.getD (i + j + 1) 0), hM (w.getD (i + j + 1) 0), szS o ((w.getD (i + j + 1) 0).toNat : Int) (by omega), catS o _ (w.getD (i + j + 1) 0) rfl]
      refine ⟨j + 2, o ++ [w.getD (i + j + 1) 0], by omega, by omega, by simp; omega, rfl, ?_⟩
      rw [show i + (j + 2) = i + j + 1 + 1 by omega]; rfl
end Go.Proofs.Tryd.S

namespace Go.Proofs.Tryd.S
open Go Go.Ev
theorem F18_end (w : List UInt8) (i j : Nat) (o : List UInt8) (h : w.length ≤ lim) (hi : i ≤ w.length) (hj : j ≤ (w.drop i).length) (hb : j = (w.drop i).length ∨ isB (w.getD (i + j) 0) = true) :
    F18.s60 KK (sW (w.drop i) o j) = some (.inr (.inr (((j : Int), (), ()), (ints o, ()), ()))) := by
  have e1 : F18.s60 KK (sW (w.drop i) o j) = F18.go60 KK (arr (w.drop i)) (j : Int) (ints o) := rfl
  rw [e1]
  unfold F18.go60
  by_cases hj2 : j < (w.drop i).length
  · have hb : isB (w.getD (i + j) 0) = true := by rcases hb with hb | hb; omega; exact hb
    unfold isB at hb
    rw [arr_size, ltD hj2, dec0 j, Int.toNat_natCast j, arr_get (w.drop i) j, dropD w i j, n32 (w.getD (i + j) 0), n9 (w.getD (i + j) 0), n10 (w.getD (i + j) 0)]
    simp only [cond_true, Bool.and_self]
    cases b32 : w.getD (i + j) 0 == 32
    · cases b9 : w.getD (i + j) 0 == 9
      · cases b10 : w.getD (i + j) 0 == 10
        · rw [b32, b9, b10] at hb; cases hb
        · rfl
      · rfl
    · rfl
  · rw [arr_size, ltN hj2]; rfl
theorem word_loop (w : List UInt8) (i : Nat) (ws : List ByteArray) (h : w.length ≤ lim) (hi : i ≤ w.length) : ∀ (m j : Nat) (o : List UInt8) (opn : Bool) (k : Nat), (w.drop i).length - j ≤ m → o.length ≤ j → j ≤ (w.drop i).length → m < k →
    ∃ n, n + j ≤ (w.drop i).length ∧ ((∃ (j' : Nat) (o' : List UInt8) (f : Bool), n + j ≤ j' ∧ j' ≤ (w.drop i).length ∧ o'.length ≤ j' ∧ (j' = (w.drop i).length ∨ isB (w.getD (i + j') 0) = true) ∧ ((opn = true ∨ j < j') → f = true) ∧
        loopN (F18.s60 KK) k (sW (w.drop i) o j) = some (.inr (((j' : Int), (), ()), (ints o', ()), ())) ∧ ∀ x, loopN (F7.s122 KK) (x + n) (sV w o (i + j) opn ws) = loopN (F7.s122 KK) x (sV w o' (i + j') f ws)) ∨
      (loopN (F18.s60 KK) k (sW (w.drop i) o j) = some (.inl ((arr [], 0, false, ()), (), ())) ∧ n + j < (w.drop i).length ∧ ∀ x, loopN (F7.s122 KK) (x + 1 + n) (sV w o (i + j) opn ws) = some (.inl (((), 22, ()), (), ())))) := by
  intro m
  induction m with
  | zero =>
    intro j o opn k hm ho hj hk
    obtain ⟨k, rfl⟩ : ∃ i, k = i + 1 := ⟨k - 1, by omega⟩
    exact ⟨0, by omega, .inl ⟨j, o, opn, by omega, hj, ho, .inl (by omega), fun g => by rcases g with g | g; exact g; omega, loopN_inr (F18_end w i j o h hi hj (.inl (by omega))), fun x => rfl⟩⟩
  | succ m ih =>
    intro j o opn k hm ho hj hk
    obtain ⟨k, rfl⟩ : ∃ i, k = i + 1 := ⟨k - 1, by omega⟩
    by_cases hend : j = (w.drop i).length
    · exact ⟨0, by omega, .inl ⟨j, o, opn, by omega, hj, ho, .inl hend, fun g => by rcases g with g | g; exact g; omega, loopN_inr (F18_end w i j o h hi hj (.inl hend)), fun x => rfl⟩⟩
    · cases hb : isB (w.getD (i + j) 0)
      · rcases wstep w i j o opn ws h hi (by omega) ho hb with ⟨j', o', g1, g2, g3, g4, g5⟩ | ⟨g4, g5⟩
        · obtain ⟨n, e0, e⟩ := ih j' o' true k (by omega) g3 g2 (by omega)
          refine ⟨n + 1, by omega, ?_⟩
          rcases e with ⟨j2, o2, f, a1, a2, a3, a4, a5, a6, a7⟩ | ⟨a6, a8, a7⟩
          · refine .inl ⟨j2, o2, f, by omega, a2, a3, a4, fun _ => a5 (.inl rfl), by rw [loopN_inl g4]; exact a6, fun x => ?_⟩
            rw [← Nat.add_assoc, loopN_inl g5]; exact a7 x
          · refine .inr ⟨by rw [loopN_inl g4]; exact a6, by omega, fun x => ?_⟩
            rw [← Nat.add_assoc, loopN_inl g5]; exact a7 x
        · exact ⟨0, by omega, .inr ⟨loopN_inr g4, by omega, fun x => loopN_inr g5⟩⟩
      · exact ⟨0, by omega, .inl ⟨j, o, opn, by omega, hj, ho, .inr hb, fun g => by rcases g with g | g; exact g; omega, loopN_inr (F18_end w i j o h hi hj (.inr hb)), fun x => rfl⟩⟩
/-! ### the words of a line -/
abbrev sO (r : List UInt8) (ws : List ByteArray) : ((Unit × ByteArray × Unit) × (List ByteArray × Unit) × Unit) := (((), arr r, ()), (ws, ()), ())
theorem trimS (r : List UInt8) : trimL (arr r) (arr [32, 9, 10]) = arr (r.dropWhile isB) := by
  have : Lib.trimLeftS r [32, 9, 10] = r.dropWhile isB := by
    unfold Lib.trimLeftS
    congr 1
    funext x
    show List.elem x [32, 9, 10] = _
    unfold isB
    simp only [List.elem]
    cases x == 32 <;> cases x == 9 <;> cases x == 10 <;> rfl
  show (⟨(Lib.trimLeftS r [32, 9, 10]).toArray⟩ : ByteArray) = _
  rw [this]; rfl
theorem F6_eq (r : List UInt8) (ws : List ByteArray) : F6.s14 KK (sO r ws) = bif (r.dropWhile isB).isEmpty then some (.inr (((), 0, ()), (ws, ()), ())) else
    Option.bind (F18.go KK (arr (r.dropWhile isB))) (fun y3 => bif !y3.1.1.2.2.1 then some (.inr (((), 22, ()), ([], ()), ())) else
      bif Nat.ble (List.length (ws ++ [y3.1.1.1]) * 16) 140737488355328 && Nat.ble (List.length (ws ++ [y3.1.1.1])) 9223372036854775807 then
      bif decide (0 ≤ y3.1.1.2.1) && decide (y3.1.1.2.1 ≤ ((r.dropWhile isB).length : Int)) then some (.inl (((), (arr (r.dropWhile isB)).extract y3.1.1.2.1.toNat (arr (r.dropWhile isB)).size, ()), (ws ++ [y3.1.1.1], ()), ())) else none else none) := by
  show F6.go14 KK (arr r) ws = _
  have e : F6.go14 KK (arr r) ws = bif ((trimL (arr r) (arr [32, 9, 10])).toList == (arr []).toList) then some (.inr (((), 0, ()), (ws, ()), ())) else
    Option.bind (F18.go KK (trimL (arr r) (arr [32, 9, 10]))) (fun y3 => bif !y3.1.1.2.2.1 then some (.inr (((), 22, ()), ([], ()), ())) else
      bif Nat.ble (List.length (ws ++ [y3.1.1.1]) * 16) 140737488355328 && Nat.ble (List.length (ws ++ [y3.1.1.1])) 9223372036854775807 then
      bif decide (0 ≤ y3.1.1.2.1) && decide (y3.1.1.2.1 ≤ ((trimL (arr r) (arr [32, 9, 10])).size : Int)) then some (.inl (((), (trimL (arr r) (arr [32, 9, 10])).extract y3.1.1.2.1.toNat (trimL (arr r) (arr [32, 9, 10])).size, ()), (ws ++ [y3.1.1.1], ()), ())) else none else none) := by
    unfold F6.go14; rfl
  rw [e, trimS, show ((arr (r.dropWhile isB)).toList == (arr []).toList) = (r.dropWhile isB).isEmpty from tl_nil _]; rfl
theorem F7_blank (w o : List UInt8) (p : Nat) (f : Bool) (ws : List ByteArray) (h : w.length ≤ lim) (hp : p < w.length) (hw : ws.length ≤ 1100000) (hb : isB (w.getD p 0) = true) :
    F7.s122 KK (sV w o p f ws) = some (.inl (sV w [] (p + 1) false (bif f then ws ++ [arr o] else ws))) := by
  have h' : w.length ≤ 1048576 := h
  have e2 : F7.s122 KK (sV w o p f ws) = F7.go122 KK (p : Int) (arr o) f (arr w) ws := rfl
  rw [e2]
  unfold F7.go122
  have hM : (Nat.ble ((ws ++ [arr o]).length * 16) 140737488355328 && Nat.ble (ws ++ [arr o]).length 9223372036854775807) = true := by
    rw [Bool.and_eq_true, Nat.ble_eq, Nat.ble_eq]; simp only [List.length_append, List.length_cons, List.length_nil]; omega
  rw [arr_size, ltD hp, dec0 p, Int.toNat_natCast p, arr_get w p, i32 (w.getD p 0), i9 (w.getD p 0), i10 (w.getD p 0), hM, wadd1 p (by omega)]
  unfold isB at hb
  simp only [cond_true, Bool.and_self]
  cases b32 : w.getD p 0 == 32
  · cases b9 : w.getD p 0 == 9
    · cases b10 : w.getD p 0 == 10
      · rw [b32, b9, b10] at hb; cases hb
      · cases f <;> rfl
    · cases f <;> rfl
  · cases f <;> rfl
theorem F7_end (w o : List UInt8) (p : Nat) (f : Bool) (ws : List ByteArray) (hp : ¬ p < w.length) : F7.s122 KK (sV w o p f ws) = some (.inr (.inr ((arr o, (), f, ()), (ws, ()), ()))) := by
  have e2 : F7.s122 KK (sV w o p f ws) = F7.go122 KK (p : Int) (arr o) f (arr w) ws := rfl
  rw [e2]
  unfold F7.go122
  rw [arr_size, ltN hp]; rfl
theorem skip (w : List UInt8) (ws : List ByteArray) (h : w.length ≤ lim) (hw : ws.length ≤ 1100000) : ∀ (m p : Nat), w.length - p = m → p ≤ w.length → ∃ n, p + n ≤ w.length ∧ w.drop (p + n) = (w.drop p).dropWhile isB ∧ (p + n = w.length ∨ isB (w.getD (p + n) 0) = false) ∧
    ∀ x, loopN (F7.s122 KK) (x + n) (sV w [] p false ws) = loopN (F7.s122 KK) x (sV w [] (p + n) false ws) := by
  intro m
  induction m with
  | zero =>
    intro p hm hp
    refine ⟨0, by omega, ?_, .inl (by omega), fun x => rfl⟩
    rw [Nat.add_zero, List.drop_of_length_le (by omega)]; rfl
  | succ m ih =>
    intro p hm hp
    have hd := drop_cons w p (by omega)
    cases hb : isB (w.getD p 0)
    · refine ⟨0, by omega, ?_, .inr hb, fun x => rfl⟩
      rw [Nat.add_zero, hd, List.dropWhile_cons_of_neg (by rw [hb]; decide)]
    · obtain ⟨n, a1, a2, a3, a4⟩ := ih (p + 1) (by omega) (by omega)
      have s := F7_blank w [] p false ws h (by omega) hw hb
      refine ⟨n + 1, by omega, ?_, ?_, fun x => ?_⟩
      · rw [hd, List.dropWhile_cons_of_pos hb, ← a2, show p + (n + 1) = p + 1 + n by omega]
      · rw [show p + (n + 1) = p + 1 + n by omega]; exact a3
      · rw [← Nat.add_assoc, loopN_inl s, show p + (n + 1) = p + 1 + n by omega]; exact a4 x
end Go.Proofs.Tryd.S

namespace Go.Proofs.Tryd.S
open Go Go.Ev
theorem F18_go (r : List UInt8) : F18.go KK (arr r) = Option.bind (loopN (F18.s60 KK) KK (sW r [] 0)) (fun y2 => Sum.elim (fun y3 => some (((y3.1.1, y3.1.2.1, y3.1.2.2.1, ()), ()), (), ())) (fun y3 => some (((strOf y3.2.1.1, y3.1.1, true, ()), ()), (), ())) y2) := by
  unfold F18.go F18.l_60; rfl
/-- what both tell of a line -/
def Out (w : List UInt8) (p : Nat) (ws : List ByteArray) (k k' : Nat) : Prop :=
  (loopN (F6.s14 KK) k (sO (w.drop p) ws) = some (((), 22, ()), ([], ()), ()) ∧ loopN (F7.s122 KK) k' (sV w [] p false ws) = some (.inl (((), 22, ()), (), ()))) ∨
  (∃ (ws' : List ByteArray) (o' : List UInt8) (f : Bool), ws'.length ≤ 1100000 ∧ loopN (F6.s14 KK) k (sO (w.drop p) ws) = some (((), 0, ()), ((bif f then ws' ++ [arr o'] else ws'), ()), ()) ∧
    loopN (F7.s122 KK) k' (sV w [] p false ws) = some (.inr ((arr o', (), f, ()), (ws', ()), ())))
theorem split_fuel {n k : Nat} (h : n ≤ k) : ∃ x, k = x + n := ⟨k - n, by omega⟩
theorem line_loop (w : List UInt8) (h : w.length ≤ lim) : ∀ (m p : Nat) (ws : List ByteArray) (k k' : Nat), w.length - p ≤ m → p ≤ w.length → ws.length ≤ p → m + 1 < k → w.length - p < k' → Out w p ws k k' := by
  have h' : w.length ≤ 1048576 := h
  intro m
  induction m using Nat.strongRecOn with
  | _ m ih =>
  intro p ws k k' hm hp hw hk hk'
  obtain ⟨n, a1, a2, a3, a4⟩ := skip w ws h (by omega) _ p rfl hp
  obtain ⟨k, rfl⟩ : ∃ i, k = i + 1 := ⟨k - 1, by omega⟩
  obtain ⟨x, rfl⟩ := split_fuel (n := n) (k := k') (by omega)
  have s := F6_eq (w.drop p) ws
  rw [← a2] at s
  unfold Out
  rw [a4 x]
  rcases Nat.lt_or_ge (p + n) w.length with hlt | hge
  · have hl := lenD w (p + n) (by omega)
    have hne : (w.drop (p + n)).isEmpty = false := by rw [drop_cons w (p + n) hlt]; rfl
    have hb : isB (w.getD (p + n) 0) = false := by rcases a3 with a3 | a3; omega; exact a3
    obtain ⟨n2, e0, e⟩ := word_loop w (p + n) ws h (by omega) (w.drop (p + n)).length 0 [] false KK (by omega) (by simp) (by omega) (show _ < 2000000 by omega)
    rw [hne, cond_false, F18_go] at s
    rcases e with ⟨j', o', f, b1, b2, b3, b4, b5, b6, b7⟩ | ⟨b6, b8, b7⟩
    · have hj0 : 0 < j' := by
        rcases Nat.eq_zero_or_pos j' with g | g
        · subst g
          rcases b4 with b4 | b4
          · omega
          · rw [Nat.add_zero, hb] at b4; cases b4
        · exact g
      have hf : f = true := b5 (.inr hj0)
      subst hf
      rw [b6] at s
      simp only [Option.bind_some, Sum.elim_inr, Bool.not_true, cond_false] at s
      rw [strOf_ints, dec0 j', leD b2, Int.toNat_natCast, extE (w.drop (p + n)) j' (arr (w.drop (p + n))).size rfl, List.drop_drop] at s
      have hM : (Nat.ble ((ws ++ [arr o']).length * 16) 140737488355328 && Nat.ble (ws ++ [arr o']).length 9223372036854775807) = true := by
        rw [Bool.and_eq_true, Nat.ble_eq, Nat.ble_eq]; simp only [List.length_append, List.length_cons, List.length_nil]; omega
      rw [hM] at s
      simp only [cond_true, Bool.and_self] at s
      rw [loopN_inl s]
      obtain ⟨y, rfl⟩ := split_fuel (n := n2) (k := x) (by omega)
      have b7' := b7 y
      rw [Nat.add_zero] at b7'
      rw [b7']
      by_cases hend : p + n + j' = w.length
      · right
        refine ⟨ws, o', true, by omega, ?_, ?_⟩
        · obtain ⟨k2, rfl⟩ : ∃ i, k = i + 1 := ⟨k - 1, by omega⟩
          have s2 := F6_eq (w.drop (p + n + j')) (ws ++ [arr o'])
          rw [List.drop_of_length_le (by omega : w.length ≤ p + n + j')] at s2 ⊢
          exact loopN_inr s2
        · obtain ⟨y2, rfl⟩ : ∃ i, y = i + 1 := ⟨y - 1, by omega⟩
          exact loopN_inr (F7_end w o' (p + n + j') true ws (by omega))
      · have hb2 : isB (w.getD (p + n + j') 0) = true := by
          rcases b4 with b4 | b4
          · omega
          · exact b4
        obtain ⟨y2, rfl⟩ : ∃ i, y = i + 1 := ⟨y - 1, by omega⟩
        rw [loopN_inl (F7_blank w o' (p + n + j') true ws h (by omega) (by omega) hb2), cond_true]
        obtain ⟨k2, rfl⟩ : ∃ i, k = i + 1 := ⟨k - 1, by omega⟩
        have same : loopN (F6.s14 KK) (k2 + 1) (sO (w.drop (p + n + j')) (ws ++ [arr o'])) = loopN (F6.s14 KK) (k2 + 1) (sO (w.drop (p + n + j' + 1)) (ws ++ [arr o'])) := by
          have q1 := F6_eq (w.drop (p + n + j')) (ws ++ [arr o'])
          have q2 := F6_eq (w.drop (p + n + j' + 1)) (ws ++ [arr o'])
          rw [drop_cons w (p + n + j') (by omega), List.dropWhile_cons_of_pos hb2, ← q2, ← drop_cons w (p + n + j') (by omega)] at q1
          rw [loopN, loopN, q1]
        rw [same]
        exact ih (w.length - (p + n + j' + 1)) (by omega) (p + n + j' + 1) (ws ++ [arr o']) (k2 + 1) y2 (Nat.le_refl _) (by omega) (by simp only [List.length_append, List.length_cons, List.length_nil]; omega) (by omega) (by omega)
    · left
      rw [b6] at s
      simp only [Option.bind_some, Sum.elim_inl, Bool.not_false, cond_true] at s
      refine ⟨loopN_inr s, ?_⟩
      obtain ⟨y, rfl⟩ := split_fuel (n := 1 + n2) (k := x) (by omega)
      have := b7 y
      rw [Nat.add_zero] at this
      rw [← Nat.add_assoc]; exact this
  · right
    have hz : w.drop (p + n) = [] := List.drop_of_length_le hge
    rw [hz] at s
    obtain ⟨y, rfl⟩ : ∃ i, x = i + 1 := ⟨x - 1, by omega⟩
    exact ⟨ws, [], false, by omega, loopN_inr s, loopN_inr (F7_end w [] (p + n) false ws (by omega))⟩
/-! ### the same words -/
theorem texts_loop (l : List ByteArray) (h : l.length ≤ 1200000) : ∀ (m i k : Nat), l.length - i = m → m < k →
    loopN (F8_1.s58 KK) k (((i : Int), (), (), (l.length : Int), ()), (l, l, ()), ()) = some (.inr ((), (l, l, ()), ())) := by
  intro m
  induction m with
  | zero =>
    intro i k hm hk
    obtain ⟨k, rfl⟩ : ∃ i, k = i + 1 := ⟨k - 1, by omega⟩
    refine loopN_inr ?_
    show F8_1.go58 KK (i : Int) (l.length : Int) l l = _
    unfold F8_1.go58
    rw [ltN (by omega)]; rfl
  | succ m ih =>
    intro i k hm hk
    obtain ⟨k, rfl⟩ : ∃ i, k = i + 1 := ⟨k - 1, by omega⟩
    have s : F8_1.s58 KK (((i : Int), (), (), (l.length : Int), ()), (l, l, ()), ()) = some (.inl ((((i + 1 : Nat) : Int), (), (), (l.length : Int), ()), (l, l, ()), ())) := by
      show F8_1.go58 KK (i : Int) (l.length : Int) l l = _
      unfold F8_1.go58
      rw [ltD (by omega : i < l.length), dec0, wadd1 i (by omega)]
      simp only [cond_true, Bool.and_self, beq_self_eq_true, Bool.not_true, cond_false]
    rw [loopN_inl s]
    exact ih (i + 1) k (by omega) (by omega)
theorem texts (l : List ByteArray) (h : l.length ≤ 1200000) : F8_1.go KK l l = some ((true, ()), (l, l, ()), ()) := by
  unfold F8_1.go F8_1.l_58
  have hb : ((l.length : Int) != (l.length : Int)) = false := by simp
  rw [hb, cond_false]
  have := texts_loop l h _ 0 KK rfl (show l.length - 0 < 2000000 by omega)
  rw [show (0 : Int) = ((0 : Nat) : Int) from rfl, this]; rfl
theorem texts0 : F8.go KK [] = some ((true, ()), ([], ()), ()) := by
  unfold F8.go F8.l_58
  have s : F8.s58 KK ((0, (), (), (([] : List ByteArray).length : Int), ()), ([], ()), ()) = some (.inr ((), ([], ()), ())) := by
    show F8.go58 KK 0 0 [] = _
    unfold F8.go58; rfl
  have := loopN_inr (k := 1999999) s
  have hb : ((([] : List ByteArray).length : Int) != 0) = false := rfl
  rw [hb, cond_false]
  show Option.bind (loopN (F8.s58 KK) (1999999 + 1) _) _ = _
  rw [this]; rfl
theorem F6_go (r : List UInt8) : F6.go KK (arr r) = Option.bind (loopN (F6.s14 KK) KK (sO r [])) (fun y2 => some ((((), y2.1.2.1, ()), ()), (y2.2.1.1, ()), ())) := by
  unfold F6.go F6.l_14; rfl
theorem F7_go (w : List UInt8) : F7.go KK (arr w) = Option.bind (loopN (F7.s122 KK) KK (sV w [] 0 false [])) (fun y2 => Sum.elim (fun y3 => some (Sum.inl ((((), y3.1.2.1, ()), ()), (), ())))
    (fun y3 => bif y3.1.2.2.1 then bif Nat.ble (List.length (y3.2.1.1 ++ [y3.1.1]) * 16) 140737488355328 && Nat.ble (List.length (y3.2.1.1 ++ [y3.1.1])) 9223372036854775807 then some (Sum.inr ((((), 0, ()), ()), (y3.2.1.1 ++ [y3.1.1], ()), ())) else none else some (Sum.inr ((((), 0, ()), ()), (y3.2.1.1, ()), ()))) y2) := by
  unfold F7.go F7.l_122; rfl
/-- PrintQuotes: words and quotes are told alike -/
theorem printQuotes (w : List UInt8) (h : w.length ≤ lim) : F3.go KK (arr w) = some (F3.r true) := by
  have h' : w.length ≤ 1048576 := h
  obtain ⟨o, q1, q2⟩ := quotes w h
  have hq : ((arr o).toList == (arr o).toList) = true := beq_self_eq_true _
  have hout := line_loop w h w.length 0 [] KK KK (by omega) (by omega) (by simp) (show w.length + 1 < 2000000 by omega) (show w.length - 0 < 2000000 by omega)
  unfold Out at hout
  rw [List.drop_zero] at hout
  unfold F3.go
  rw [F6_go, F7_go]
  rcases hout with ⟨g1, g2⟩ | ⟨ws, o', f, hl, g1, g2⟩
  · rw [g1, g2]
    simp only [Option.bind_some, Sum.elim_inl, beq_self_eq_true, cond_true]
    rw [texts0]
    simp only [Option.bind_some, cond_true]
    rw [q1, q2]
    simp only [Option.bind_some]
    rw [hq]; rfl
  · rw [g1, g2]
    simp only [Option.bind_some, Sum.elim_inr]
    cases f
    · simp only [cond_false, Option.bind_some, Sum.elim_inr, beq_self_eq_true, cond_true]
      rw [texts ws (by omega)]
      simp only [Option.bind_some, cond_true]
      rw [q1, q2]
      simp only [Option.bind_some]
      rw [hq]; rfl
    · have hM : (Nat.ble ((ws ++ [arr o']).length * 16) 140737488355328 && Nat.ble (ws ++ [arr o']).length 9223372036854775807) = true := by
        rw [Bool.and_eq_true, Nat.ble_eq, Nat.ble_eq]; simp only [List.length_append, List.length_cons, List.length_nil]; omega
      simp only [cond_true]
      rw [hM]
      simp only [cond_true, Option.bind_some, Sum.elim_inr, beq_self_eq_true]
      rw [texts (ws ++ [arr o']) (by simp only [List.length_append, List.length_cons, List.length_nil]; omega)]
      simp only [Option.bind_some, cond_true]
      rw [q1, q2]
      simp only [Option.bind_some]
      rw [hq]; rfl
theorem printQuotes' (a : ByteArray) (h : a.size ≤ 1048576) : ∃ k, F3.go k a = some ((true, ()), (), ()) := ⟨KK, printQuotes a.data.toList h⟩
end Go.Proofs.Tryd.S

