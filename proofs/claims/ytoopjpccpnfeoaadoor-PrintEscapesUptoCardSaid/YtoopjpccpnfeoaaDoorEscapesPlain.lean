/- The plain law: what the functions that the law compares make is the same, over lists and numbers alone. -/
import Derived.Test.YtoopjpccpnfeoaaDoorEscapesWalk
import Derived.Test.YtoopjpccpnfeoaaDoorEv5
set_option linter.unusedVariables false
set_option linter.unusedSimpArgs false
set_option linter.unusedSectionVars false
set_option maxRecDepth 100000
namespace Go.Proofs.Tryd.S
open Go Go.Ev
theorem loopN_inr {A B : Type} {f : A → Option (A ⊕ B)} {k : Nat} {x : A} {y : B} (h : f x = some (.inr y)) : loopN f (k + 1) x = some y := by
  unfold loopN; rw [h]
theorem loopN_inl {A B : Type} {f : A → Option (A ⊕ B)} {k : Nat} {x x' : A} (h : f x = some (.inl x')) : loopN f (k + 1) x = loopN f k x' := by
  rw [loopN, h]
/-- the most bytes that are spoken of -/
abbrev lim : Nat := 1048576
/-- rounds enough -/
abbrev KK : Nat := 2000000
theorem wz (n : Nat) (h : n ≤ 1000000000) : IntKind.i64.wrap (n : Int) = (n : Int) := by
  rw [wrap_id (by omega) (by omega)]
theorem wadd (a b : Nat) (h : a + b ≤ 1000000000) : IntKind.i64.wrap ((a : Int) + (b : Int)) = ((a + b : Nat) : Int) := by
  rw [wrap_id (by omega) (by omega)]; omega
theorem wadd1 (a : Nat) (h : a + 1 ≤ 1000000000) : IntKind.i64.wrap ((a : Int) + 1) = ((a + 1 : Nat) : Int) := by
  rw [wrap_id (by omega) (by omega)]; omega
theorem tl_nil (a : List UInt8) : ((arr a).toList == (⟨⟨[]⟩⟩ : ByteArray).toList) = a.isEmpty := by
  rw [arr_toList, show (⟨⟨[]⟩⟩ : ByteArray).toList = [] from arr_toList []]; cases a <;> rfl
theorem dec0 (p : Nat) : decide ((0 : Int) ≤ (p : Int)) = true := decide_eq_true (by omega)
theorem ltD {i n : Nat} (h : i < n) : decide ((i : Int) < (n : Int)) = true := decide_eq_true (by omega)
theorem leD {i n : Nat} (h : i ≤ n) : decide ((i : Int) ≤ (n : Int)) = true := decide_eq_true (by omega)
theorem ltN {i n : Nat} (h : ¬ i < n) : decide ((i : Int) < (n : Int)) = false := decide_eq_false (by omega)
theorem extE (l : List UInt8) (i n : Nat) (h : n = l.length) : (arr l).extract i n = arr (l.drop i) := by subst h; exact arr_extract_size l i
def ints (l : List UInt8) : List Int := l.map fun b => ((b.toNat : Nat) : Int)
theorem strOf_ints (l : List UInt8) : strOf (ints l) = arr l := by
  unfold strOf ints arr
  rw [List.map_map]
  have : ((fun n : Int => UInt8.ofNat n.toNat) ∘ fun b : UInt8 => ((b.toNat : Nat) : Int)) = id := by
    funext b
    simp only [Function.comp, Int.toNat_natCast, id]
    exact UInt8.ofNat_toNat
  rw [this, List.map_id]
theorem ints_append (a b : List UInt8) : ints (a ++ b) = ints a ++ ints b := List.map_append
theorem ints_length (a : List UInt8) : (ints a).length = a.length := List.length_map ..
/-! ### octal digits -/
def isO (c : UInt8) : Bool := decide ((c.toNat : Int) ≥ 48) && decide ((c.toNat : Int) ≤ 55)
def more (n : Int) (c : UInt8) : Int := IntKind.i64.wrap (IntKind.i64.wrap (n * 8) + IntKind.i64.wrap (IntKind.u8.wrap ((c.toNat : Int) - 48)))
theorem isO_spec {c : UInt8} (h : isO c = true) : 48 ≤ c.toNat ∧ c.toNat ≤ 55 := by
  unfold isO at h
  simp only [Bool.and_eq_true, decide_eq_true_eq] at h
  omega
theorem more_eq {n : Nat} {c : UInt8} (hn : n ≤ 100000000) (h : isO c = true) : more (n : Int) c = ((n * 8 + (c.toNat - 48) : Nat) : Int) := by
  obtain ⟨h1, h2⟩ := isO_spec h
  unfold more
  have e : IntKind.u8.wrap ((c.toNat : Int) - 48) = (c.toNat : Int) - 48 := by
    rw [IntKind.wrap_u8]; omega
  rw [e, wrap_id (n := (n : Int) * 8) (by omega) (by omega), wrap_id (n := (c.toNat : Int) - 48) (by omega) (by omega), wrap_id (by omega) (by omega)]
  omega
theorem F33_step (q : Nat) (b : List UInt8) (p : Nat) (n : Int) (most : Nat) (h : b.length ≤ lim) : F33.s28 q (((p : Int), arr b, n, (most : Int), ()), (), ()) =
    if p < most ∧ p < b.length ∧ isO (b.getD p 0) = true then some (.inl ((((p + 1 : Nat) : Int), arr b, more n (b.getD p 0), (most : Int), ()), (), ())) else some (.inr (((p : Int), n, ()), (), ())) := by
  show F33.go28 q (p : Int) (arr b) n (most : Int) = _
  unfold F33.go28
  rw [arr_size]
  by_cases h0 : p < most
  · rw [ltD h0]
    by_cases h1 : p < b.length
    · have h' : b.length ≤ 1048576 := h
      rw [ltD h1, dec0, Int.toNat_natCast, arr_get, wadd1 p (by omega)]
      unfold isO more
      simp only [cond_true, Bool.and_true, Bool.true_and, h0, h1, true_and]
      cases h3 : decide (((b.getD p 0).toNat : Int) ≥ 48)
      · simp
      · cases h4 : decide (((b.getD p 0).toNat : Int) ≤ 55)
        · simp
        · simp
    · rw [ltN h1, if_neg (by simp [h1])]; rfl
  · rw [ltN h0, if_neg (by simp [h0])]; rfl
/-- what the document's loop carries along -/
structure Junk where
  a3 : Bool
  a4 : Int
  a5 : Bool
  a6 : Int
  a7 : Int
  a8 : ByteArray
  a9 : Int
  a10 : ByteArray
theorem F13_octal_step (q : Nat) (w : List UInt8) (p : Nat) (n : Int) (most : Nat) (J : Junk) (h : w.length ≤ lim) : F13.s478204 q (((p : Int), arr w, n, J.a3, J.a4, J.a5, J.a6, J.a7, J.a8, J.a9, J.a10, (most : Int), ()), (), ()) =
    if p < w.length ∧ p < most ∧ isO (w.getD p 0) = true then some (.inl ((((p + 1 : Nat) : Int), arr w, more n (w.getD p 0), J.a3, J.a4, J.a5, J.a6, J.a7, J.a8, J.a9, J.a10, (most : Int), ()), (), ()))
    else some (.inr ((arr w, J.a3, J.a4, J.a5, J.a6, J.a7, J.a8, J.a9, (p : Int), n, J.a10, ()), (), ())) := by
  show F13.go478204 q (p : Int) (arr w) n J.a3 J.a4 J.a5 J.a6 J.a7 J.a8 J.a9 J.a10 (most : Int) = _
  unfold F13.go478204
  rw [arr_size]
  by_cases h1 : p < w.length
  · rw [ltD h1]
    by_cases h0 : p < most
    · have h' : w.length ≤ 1048576 := h
      rw [ltD h0, dec0, Int.toNat_natCast, arr_get, wadd1 p (by omega)]
      unfold isO more
      simp only [cond_true, Bool.and_true, Bool.true_and, h0, h1, true_and]
      cases h3 : decide (((w.getD p 0).toNat : Int) ≥ 48)
      · simp
      · cases h4 : decide (((w.getD p 0).toNat : Int) ≤ 55)
        · simp
        · simp
    · rw [ltN h0, if_neg (by simp [h0])]; rfl
  · rw [ltN h1, if_neg (by simp [h1])]; rfl
theorem drop_getD (w : List UInt8) (j p : Nat) : (w.drop j).getD p 0 = w.getD (j + p) 0 := by
  rw [List.getD_eq_getElem?_getD, List.getD_eq_getElem?_getD, List.getElem?_drop]
/-- both walks of the octal digits -/
theorem octal_loop (w : List UInt8) (h : w.length ≤ lim) (j : Nat) (hj : j ≤ w.length) (most : Nat) (hm : most ≤ 4) (J : Junk) (q q' : Nat) : ∀ (m p n k k' : Nat), most - p = m → p ≤ most → n + 1 ≤ 8 ^ p → m < k → m < k' →
    ∃ p' n' : Nat, p ≤ p' ∧ p' ≤ most ∧ j + p' ≤ max w.length (j + p) ∧ (p < most → j + p < w.length → isO (w.getD (j + p) 0) = true → p < p') ∧
      loopN (F33.s28 q) k (((p : Int), arr (w.drop j), (n : Int), (most : Int), ()), (), ()) = some (((p' : Int), (n' : Int), ()), (), ()) ∧
      loopN (F13.s478204 q') k' ((((j + p : Nat) : Int), arr w, (n : Int), J.a3, J.a4, J.a5, J.a6, J.a7, J.a8, J.a9, J.a10, ((j + most : Nat) : Int), ()), (), ()) =
        some ((arr w, J.a3, J.a4, J.a5, J.a6, J.a7, J.a8, J.a9, ((j + p' : Nat) : Int), (n' : Int), J.a10, ()), (), ()) := by
  intro m
  induction m with
  | zero =>
    intro p n k k' hm1 hp hn hk hk'
    obtain ⟨k, rfl⟩ : ∃ i, k = i + 1 := ⟨k - 1, by omega⟩
    obtain ⟨k', rfl⟩ : ∃ i, k' = i + 1 := ⟨k' - 1, by omega⟩
    have s1 := F33_step q (w.drop j) p (n : Int) most (by rw [List.length_drop]; omega)
    have s2 := F13_octal_step q' w (j + p) (n : Int) (j + most) J h
    rw [if_neg (by omega)] at s1
    rw [if_neg (by omega)] at s2
    exact ⟨p, n, Nat.le_refl _, hp, by omega, fun hh => by omega, loopN_inr s1, loopN_inr s2⟩
  | succ m ih =>
    intro p n k k' hm1 hp hn hk hk'
    obtain ⟨k, rfl⟩ : ∃ i, k = i + 1 := ⟨k - 1, by omega⟩
    obtain ⟨k', rfl⟩ : ∃ i, k' = i + 1 := ⟨k' - 1, by omega⟩
    have s1 := F33_step q (w.drop j) p (n : Int) most (by rw [List.length_drop]; omega)
    have s2 := F13_octal_step q' w (j + p) (n : Int) (j + most) J h
    rw [drop_getD, List.length_drop] at s1
    have hpw : 8 ^ p ≤ 8 ^ 4 := Nat.pow_le_pow_right (by omega) (by omega)
    have hpw' : 8 ^ p ≤ 4096 := hpw
    by_cases c : j + p < w.length ∧ isO (w.getD (j + p) 0) = true
    · rw [if_pos ⟨by omega, by omega, c.2⟩] at s1
      rw [if_pos ⟨c.1, by omega, c.2⟩] at s2
      have hd := isO_spec c.2
      rw [more_eq (by omega) c.2] at s1 s2
      rw [loopN_inl s1, loopN_inl s2]
      obtain ⟨p', n', g1, g2, g3, g4, g5, g6⟩ := ih (p + 1) (n * 8 + ((w.getD (j + p) 0).toNat - 48)) k k' (by omega) (by omega) (by rw [Nat.pow_succ]; omega) (by omega) (by omega)
      exact ⟨p', n', by omega, g2, by omega, fun _ _ _ => by omega, g5, g6⟩
    · rw [if_neg (by rintro ⟨_, h2, h3⟩; exact c ⟨by omega, h3⟩)] at s1
      rw [if_neg (by rintro ⟨h1, _, h3⟩; exact c ⟨h1, h3⟩)] at s2
      exact ⟨p, n, Nat.le_refl _, hp, by omega, fun _ h2 h3 => absurd ⟨h2, h3⟩ c, loopN_inr s1, loopN_inr s2⟩
end Go.Proofs.Tryd.S

namespace Go.Proofs.Tryd.S
open Go Go.Ev
def L8 : List UInt8 := [97, 98, 102, 110, 114, 116, 118, 92]
def T8 : List UInt8 := [7, 8, 12, 10, 13, 9, 11, 92]
noncomputable def chkL (n : Nat) : Bool := match F34.go KK (n : Int), F20.go KK (n : Int) (arr L8) with
  | some (((u, b, ()), ()), (), ()), some ((j, ()), (), ()) => bif b then (decide (0 ≤ j) && (decide (j < 8) && (u == ((T8.getD j.toNat 0).toNat : Int)))) else j == -1
  | _, _ => false
theorem chkL_all : (List.range 256).all chkL = true := by kernel_rfl
theorem letters (x : UInt8) : ∃ (j u : Int) (b : Bool), F34.go KK (x.toNat : Int) = some (((u, b, ()), ()), (), ()) ∧ F20.go KK (x.toNat : Int) (arr L8) = some ((j, ()), (), ()) ∧
    ((b = true ∧ 0 ≤ j ∧ j < 8 ∧ u = ((T8.getD j.toNat 0).toNat : Int)) ∨ (b = false ∧ j = -1)) := by
  have h := List.all_eq_true.1 chkL_all x.toNat (List.mem_range.2 x.toNat_lt)
  unfold chkL at h
  split at h
  · rename_i u b j h1 h2
    refine ⟨j, u, b, h1, h2, ?_⟩
    cases b
    · right; exact ⟨rfl, by simpa using h⟩
    · left; simp only [cond_true, Bool.and_eq_true, decide_eq_true_eq, beq_iff_eq] at h; exact ⟨rfl, h.1, h.2.1, h.2.2⟩
  · cases h
theorem bleM (l : List Int) (h : l.length ≤ 8000000) : (Nat.ble (l.length * 1) 140737488355328 && Nat.ble l.length 9223372036854775807) = true := by
  rw [Bool.and_eq_true, Nat.ble_eq, Nat.ble_eq]; omega
theorem catS (o : List UInt8) (n : Int) (c : UInt8) (h : n = (c.toNat : Int)) : (⟨⟨Array.toList (ByteArray.data (arr o)) ++ Array.toList (ByteArray.data (strOf [n]))⟩⟩ : ByteArray) = arr (o ++ [c]) := by
  have : strOf [n] = arr [c] := by rw [h]; exact strOf_ints [c]
  rw [this]; rfl
theorem szS (o : List UInt8) (n : Int) (h : o.length ≤ 8000000) : decide (ByteArray.size (arr o) + ByteArray.size (strOf [n]) ≤ 9223372036854775807) = true := by
  rw [arr_size, show ByteArray.size (strOf [n]) = 1 from rfl]
  exact decide_eq_true (by omega)
theorem isE (b : List UInt8) : ((arr b).toList == (⟨⟨[]⟩⟩ : ByteArray).toList) = b.isEmpty := tl_nil b
theorem F24_nil : F24.go KK (arr []) = some (((0, 0, false, ()), ()), (), ()) := by
  unfold F24.go; rw [isE]; rfl
/-- the program's: what stands behind a backslash -/
theorem F24_cons (x : UInt8) (r : List UInt8) : F24.go KK (arr (x :: r)) = bif (x.toNat : Int) == 99 then some (((0, 1, true, ()), ()), (), ()) else
    bif (x.toNat : Int) == 48 then Option.bind (F33.go KK (arr r) 3) (fun y2 => some (((y2.1.1.1, IntKind.i64.wrap (y2.1.1.2.1 + 1), false, ()), ()), (), ())) else
    bif decide ((x.toNat : Int) ≥ 49) && decide ((x.toNat : Int) ≤ 55) then Option.bind (F33.go KK (arr (x :: r)) 3) (fun y2 => some (((y2.1.1.1, y2.1.1.2.1, false, ()), ()), (), ())) else
    Option.bind (F34.go KK (x.toNat : Int)) (fun y2 => bif y2.1.1.2.1 then some (((y2.1.1.1, 1, false, ()), ()), (), ()) else some (((0, 0, false, ()), ()), (), ())) := by
  unfold F24.go
  rw [isE, arr_size]
  have p0 : decide ((0 : Int) < (((x :: r).length : Nat) : Int)) = true := decide_eq_true (by simp only [List.length_cons]; omega)
  have p1 : decide ((1 : Int) ≤ (((x :: r).length : Nat) : Int)) = true := decide_eq_true (by simp only [List.length_cons]; omega)
  have hg : Array.getD (arr (x :: r)).data 0 (OfNat.ofNat 0) = x := rfl
  rw [p0, p1, hg, extE (x :: r) 1 _ rfl]
  simp only [List.isEmpty_cons, cond_true, cond_false, List.drop_one, List.tail_cons]
  cases (x.toNat : Int) == 99 <;> cases (x.toNat : Int) == 48 <;> cases decide ((x.toNat : Int) ≥ 49) <;> cases decide ((x.toNat : Int) ≤ 55) <;> rfl
end Go.Proofs.Tryd.S

namespace Go.Proofs.Tryd.S
open Go Go.Ev
abbrev sP (w o : List UInt8) (i : Nat) : ((Int × ByteArray × Unit × Unit) × (List Int × Unit) × Unit) := (((i : Int), arr w, (), ()), (ints o, ()), ())
abbrev sR (w o : List UInt8) (i : Nat) : ((Int × ByteArray × ByteArray × Unit) × Unit × Unit) := (((i : Int), arr w, arr o, ()), (), ())
/-- the program's step, a byte told -/
theorem F12_end (w o : List UInt8) (i : Nat) (h : ¬ i < w.length) : F12.s58 KK (sP w o i) = some (.inr (.inr (((), ()), (ints o, ()), ()))) := by
  show F12.go58 KK (i : Int) (arr w) (ints o) = _
  unfold F12.go58
  rw [arr_size, ltN h]; rfl
theorem F13_end (w o : List UInt8) (i : Nat) (h : ¬ i < w.length) : F13.s58 KK (sR w o i) = some (.inr (.inr ((arr o, ()), (), ()))) := by
  show F13.go58 KK (i : Int) (arr w) (arr o) = _
  unfold F13.go58
  rw [arr_size, ltN h]; rfl
theorem ints1 (o : List UInt8) (c : UInt8) : ints o ++ [(c.toNat : Int)] = ints (o ++ [c]) := by rw [ints_append]; rfl
theorem F12_plain (w o : List UInt8) (i : Nat) (hi : i < w.length) (h : w.length ≤ lim) (ho : o.length ≤ lim) (hx : ((w.getD i 0).toNat : Int) ≠ 92) : F12.s58 KK (sP w o i) = some (.inl (sP w (o ++ [w.getD i 0]) (i + 1))) := by
  show F12.go58 KK (i : Int) (arr w) (ints o) = _
  unfold F12.go58
  have h' : w.length ≤ 1048576 := h
  have ho' : o.length ≤ 1048576 := ho
  have hb : (((w.getD i 0).toNat : Int) != 92) = true := by rw [bne_iff_ne]; exact hx
  rw [arr_size, ltD hi, dec0, Int.toNat_natCast, arr_get, hb, ints1, bleM _ (by rw [ints_length, List.length_append]; simp; omega), wadd1 i (by omega)]
  rfl
theorem F13_plain (w o : List UInt8) (i : Nat) (hi : i < w.length) (h : w.length ≤ lim) (ho : o.length ≤ lim) (hx : ((w.getD i 0).toNat : Int) ≠ 92) : F13.s58 KK (sR w o i) = some (.inl (sR w (o ++ [w.getD i 0]) (i + 1))) := by
  show F13.go58 KK (i : Int) (arr w) (arr o) = _
  unfold F13.go58 F19.go
  have h' : w.length ≤ 1048576 := h
  have ho' : o.length ≤ 1048576 := ho
  have hb : (((w.getD i 0).toNat : Int) != 92) = true := by rw [bne_iff_ne]; exact hx
  rw [arr_size, ltD hi, dec0, Int.toNat_natCast, arr_get, hb]
  simp only [cond_true, Bool.and_self, Option.bind_some]
  rw [szS o _ (by omega), catS o _ (w.getD i 0) rfl, wadd1 i (by omega)]
  rfl
/-- the program's step at a backslash -/
theorem F12_esc (w o : List UInt8) (i : Nat) (hi : i < w.length) (h : w.length ≤ lim) (hx : ((w.getD i 0).toNat : Int) = 92) : F12.s58 KK (sP w o i) =
    Option.bind (F24.go KK (arr (w.drop (i + 1)))) (fun y4 => bif y4.1.1.2.2.1 then some (.inr (.inl ((strOf (ints o), true, ()), (), ()))) else
      Option.bind (F12.go7463 KK (arr w) y4.1.1.2.1 (i : Int) y4.1.1.1 (ints o)) (fun y5 => some (.inl ((IntKind.i64.wrap (y5.1.2.2.1 + 1), y5.1.1, (), ()), (y5.2.1.1, ()), ())))) := by
  show F12.go58 KK (i : Int) (arr w) (ints o) = _
  unfold F12.go58
  have h' : w.length ≤ 1048576 := h
  have hb : (((w.getD i 0).toNat : Int) != 92) = false := by rw [bne_eq_false_iff_eq]; exact hx
  rw [arr_size, ltD hi, dec0, Int.toNat_natCast, arr_get, hb, wadd1 i (by omega), dec0, leD (by omega : i + 1 ≤ w.length), Int.toNat_natCast, extE w (i + 1) _ rfl]
  rfl
theorem F12_put (w o : List UInt8) (i n : Nat) (c u : UInt8) (hi : i ≤ lim) (hn : n ≤ 10) (ho : o.length ≤ lim) (hu : u = if n = 0 then 92 else c) : F12.go7463 KK (arr w) (n : Int) (i : Int) (c.toNat : Int) (ints o) = some ((arr w, (), ((i + n : Nat) : Int), ()), (ints (o ++ [u]), ()), ()) := by
  unfold F12.go7463
  have hi' : i ≤ 1048576 := hi
  have ho' : o.length ≤ 1048576 := ho
  rw [wadd i n (by omega)]
  by_cases h0 : n = 0
  · rw [if_pos h0] at hu
    subst hu; subst h0
    have e : ints o ++ [(92 : Int)] = ints (o ++ [92]) := ints1 o 92
    rw [e, bleM _ (by rw [ints_length, List.length_append]; simp; omega)]; rfl
  · rw [if_neg h0] at hu
    subst hu
    have hb : ((n : Int) == 0) = false := by rw [beq_eq_false_iff_ne]; omega
    rw [hb, cond_false, ints1, bleM _ (by rw [ints_length, List.length_append]; simp; omega)]; rfl
/-- the document's step at a backslash -/
theorem F13_last (w o : List UInt8) (i : Nat) (hi : i + 1 = w.length) (h : w.length ≤ lim) (ho : o.length ≤ lim) (hx : ((w.getD i 0).toNat : Int) = 92) : F13.s58 KK (sR w o i) = some (.inl (sR w (o ++ [92]) (i + 1))) := by
  show F13.go58 KK (i : Int) (arr w) (arr o) = _
  unfold F13.go58 F19.go
  have h' : w.length ≤ 1048576 := h
  have ho' : o.length ≤ 1048576 := ho
  have hb : (((w.getD i 0).toNat : Int) != 92) = false := by rw [bne_eq_false_iff_eq]; exact hx
  have he : (((i + 1 : Nat) : Int) == (w.length : Int)) = true := by rw [beq_iff_eq]; omega
  rw [arr_size, ltD (by omega : i < w.length), dec0, Int.toNat_natCast, arr_get, hb, wadd1 i (by omega), he]
  simp only [cond_true, cond_false, Bool.and_self, Option.bind_some]
  rw [szS o _ (by omega), catS o _ 92 hx]
  rfl
theorem F13_esc (w o : List UInt8) (i : Nat) (hi : i + 1 < w.length) (h : w.length ≤ lim) (hx : ((w.getD i 0).toNat : Int) = 92) : F13.s58 KK (sR w o i) =
    bif ((w.getD (i + 1) 0).toNat : Int) == 99 then some (.inr (.inl ((arr o, true, ()), (), ()))) else
      Option.bind (F13.go3735 KK (arr w) (((i + 1 : Nat) : Int) == (w.length : Int)) ((i + 1 : Nat) : Int) (w.length : Int) (arr w) (i : Int) (i : Int) (arr o) ((w.getD (i + 1) 0).toNat : Int))
        (fun y4 => Sum.elim (fun y5 => some (.inl ((y5.1.1, y5.1.2.1, y5.1.2.2.1, ()), (), ()))) (fun y5 => some (.inl ((y5.1.1, y5.1.2.1, y5.1.2.2.1, ()), (), ()))) y4) := by
  show F13.go58 KK (i : Int) (arr w) (arr o) = _
  unfold F13.go58
  have h' : w.length ≤ 1048576 := h
  have hb : (((w.getD i 0).toNat : Int) != 92) = false := by rw [bne_eq_false_iff_eq]; exact hx
  have he : (((i + 1 : Nat) : Int) == (w.length : Int)) = false := by rw [beq_eq_false_iff_ne]; omega
  rw [arr_size, ltD (by omega : i < w.length), dec0, Int.toNat_natCast, arr_get, hb, wadd1 i (by omega), he, dec0, ltD hi, Int.toNat_natCast, arr_get]
  rfl
end Go.Proofs.Tryd.S

namespace Go.Proofs.Tryd.S
open Go Go.Ev
/-! ### the other way: a text made an escaped one -/
def p1 (n : Int) : Int := IntKind.u8.wrap (48 + Int.fdiv n 64)
def p2 (n : Int) : Int := IntKind.u8.wrap (48 + IntKind.u8.wrap (((BitVec.ofInt 8 (Int.fdiv n 8) &&& BitVec.ofInt 8 7).toNat : Nat) : Int))
def p3 (n : Int) : Int := IntKind.u8.wrap (48 + IntKind.u8.wrap (((BitVec.ofInt 8 n &&& BitVec.ofInt 8 7).toNat : Nat) : Int))
def r1 (n : Int) : Int := IntKind.u8.wrap (48 + IntKind.u8.wrap (Int.tdiv n 64))
def r2 (n : Int) : Int := IntKind.u8.wrap (48 + Int.tmod (IntKind.u8.wrap (Int.tdiv n 8)) 8)
def r3 (n : Int) : Int := IntKind.u8.wrap (48 + Int.tmod n 8)
def bt (n : Int) : UInt8 := UInt8.ofNat n.toNat
def chkO (n : Nat) : Bool := p1 n == ((bt (r1 n)).toNat : Int) && (p2 n == ((bt (r2 n)).toNat : Int) && p3 n == ((bt (r3 n)).toNat : Int))
theorem chkO_all : (List.range 256).all chkO = true := by kernel_rfl
theorem octs (c : UInt8) : p1 (c.toNat : Int) = ((bt (r1 (c.toNat : Int))).toNat : Int) ∧ p2 (c.toNat : Int) = ((bt (r2 (c.toNat : Int))).toNat : Int) ∧ p3 (c.toNat : Int) = ((bt (r3 (c.toNat : Int))).toNat : Int) := by
  have h := List.all_eq_true.1 chkO_all c.toNat (List.mem_range.2 c.toNat_lt)
  unfold chkO at h
  simp only [Bool.and_eq_true, beq_iff_eq] at h
  exact h
def E5 (n : Int) : List UInt8 := [92, 48, bt (r1 n), bt (r2 n), bt (r3 n)]
theorem E5_eq (c : UInt8) : [(92 : Int), 48, p1 (c.toNat : Int), p2 (c.toNat : Int), p3 (c.toNat : Int)] = ints (E5 (c.toNat : Int)) := by
  obtain ⟨h1, h2, h3⟩ := octs c
  rw [h1, h2, h3]; rfl
/-- what a byte becomes -/
def esc (c : UInt8) : List UInt8 :=
  bif (c.toNat : Int) == 92 then [92, 92] else bif (c.toNat : Int) == 10 then [92, 110] else bif (c.toNat : Int) == 9 then [92, 116] else bif (c.toNat : Int) == 13 then [92, 114] else
  bif decide ((c.toNat : Int) < 32) then E5 (c.toNat : Int) else bif decide ((c.toNat : Int) ≥ 127) then E5 (c.toNat : Int) else [c]
theorem esc_len (c : UInt8) : (esc c).length ≤ 5 := by
  unfold esc
  cases (c.toNat : Int) == 92 <;> cases (c.toNat : Int) == 10 <;> cases (c.toNat : Int) == 9 <;> cases (c.toNat : Int) == 13 <;> cases decide ((c.toNat : Int) < 32) <;> cases decide ((c.toNat : Int) ≥ 127) <;> simp [E5]
abbrev s14 (w o : List UInt8) (i : Nat) : ((Int × Unit × ByteArray × Int × Unit) × (List Int × Unit) × Unit) := (((i : Int), (), arr w, (w.length : Int), ()), (ints o, ()), ())
abbrev s15 (w o : List UInt8) (i : Nat) : ((Int × ByteArray × ByteArray × Unit) × Unit × Unit) := (((i : Int), arr o, arr w, ()), (), ())
noncomputable abbrev put14 (w : List UInt8) (i : Int) (l : List Int) : Option (((Int × Unit × ByteArray × Int × Unit) × (List Int × Unit) × Unit) ⊕ (((Unit × Unit) × (List Int × Unit) × Unit))) :=
  bif Nat.ble (l.length * 1) 140737488355328 && Nat.ble l.length 9223372036854775807 then some (.inl ((IntKind.i64.wrap (i + 1), (), arr w, (w.length : Int), ()), (l, ()), ())) else none
theorem F14_eq (w o : List UInt8) (i : Int) : F14.go58 KK i (arr w) (w.length : Int) (ints o) = bif decide (i < (w.length : Int)) then
    bif decide (0 ≤ i) && decide (i < (((arr w).size : Nat) : Int)) then
      (fun X : Int => bif X == 92 then put14 w i (ints o ++ ints [92, 92]) else bif X == 10 then put14 w i (ints o ++ ints [92, 110]) else bif X == 9 then put14 w i (ints o ++ ints [92, 116]) else
        bif X == 13 then put14 w i (ints o ++ ints [92, 114]) else bif decide (X < 32) then put14 w i (ints o ++ [92, 48, p1 X, p2 X, p3 X]) else bif decide (X ≥ 127) then put14 w i (ints o ++ [92, 48, p1 X, p2 X, p3 X]) else
        put14 w i (ints o ++ [X])) (((arr w).data.getD i.toNat 0).toNat : Int) else none else some (.inr (((), ()), (ints o, ()), ())) := by
  unfold F14.go58; rfl
theorem put14_ok (w o e : List UInt8) (i : Nat) (h : w.length ≤ lim) (hi : i < w.length) (ho : o.length ≤ 5 * i) (he : e.length ≤ 5) : put14 w (i : Int) (ints o ++ ints e) = some (.inl (s14 w (o ++ e) (i + 1))) := by
  have h' : w.length ≤ 1048576 := h
  rw [← ints_append]
  unfold put14
  rw [bleM _ (by rw [ints_length, List.length_append]; omega), wadd1 i (by omega)]; rfl
theorem F14_step (w o : List UInt8) (i : Nat) (hi : i < w.length) (h : w.length ≤ lim) (ho : o.length ≤ 5 * i) : F14.s58 KK (s14 w o i) = some (.inl (s14 w (o ++ esc (w.getD i 0)) (i + 1))) := by
  show F14.go58 KK (i : Int) (arr w) (w.length : Int) (ints o) = _
  rw [F14_eq, arr_size, ltD hi, dec0, Int.toNat_natCast, arr_get]
  have hl := esc_len (w.getD i 0)
  generalize hc : w.getD i 0 = c at hl ⊢
  simp only [cond_true, Bool.and_self]
  rw [E5_eq c, show [(c.toNat : Int)] = ints [c] from rfl, ← put14_ok w o (esc c) i h hi ho hl]
  unfold esc
  cases (c.toNat : Int) == 92 <;> cases (c.toNat : Int) == 10 <;> cases (c.toNat : Int) == 9 <;> cases (c.toNat : Int) == 13 <;> cases decide ((c.toNat : Int) < 32) <;> cases decide ((c.toNat : Int) ≥ 127) <;> rfl
theorem F14_end (w o : List UInt8) (i : Nat) (hi : ¬ i < w.length) : F14.s58 KK (s14 w o i) = some (.inr (((), ()), (ints o, ()), ())) := by
  show F14.go58 KK (i : Int) (arr w) (w.length : Int) (ints o) = _
  rw [F14_eq, ltN hi]; rfl
noncomputable abbrev put15 (w : List UInt8) (i : Int) (o : List UInt8) (e : List UInt8) (n : Nat) : Option (((Int × ByteArray × ByteArray × Unit) × Unit × Unit) ⊕ (((ByteArray × Unit) × Unit × Unit))) :=
  bif decide (o.length + n ≤ 9223372036854775807) then some (.inl ((IntKind.i64.wrap (i + 1), arr (o ++ e), arr w, ()), (), ())) else none
theorem F15_eq (w o : List UInt8) (i : Int) : F15.go58 KK i (arr o) (arr w) = bif decide (i < (((arr w).size : Nat) : Int)) then
    bif decide (0 ≤ i) && decide (i < (((arr w).size : Nat) : Int)) then
      (fun X : Int => bif X == 92 then put15 w i o [92, 92] 2 else bif X == 10 then put15 w i o [92, 110] 2 else bif X == 9 then put15 w i o [92, 116] 2 else
        bif X == 13 then put15 w i o [92, 114] 2 else bif decide (X < 32) then put15 w i o (E5 X) 5 else bif decide (X ≥ 127) then put15 w i o (E5 X) 5 else
        put15 w i o [bt X] 1) (((arr w).data.getD i.toNat 0).toNat : Int) else none else some (.inr ((arr o, ()), (), ())) := by
  unfold F15.go58 F19.go; rfl
theorem put15_ok (w o e : List UInt8) (i n : Nat) (h : w.length ≤ lim) (hi : i < w.length) (ho : o.length ≤ 5 * i) (hn : n ≤ 5) : put15 w (i : Int) o e n = some (.inl (s15 w (o ++ e) (i + 1))) := by
  have h' : w.length ≤ 1048576 := h
  unfold put15
  rw [decide_eq_true (by omega : o.length + n ≤ 9223372036854775807), wadd1 i (by omega)]; rfl
theorem bt_nat (c : UInt8) : bt (c.toNat : Int) = c := by
  unfold bt; rw [Int.toNat_natCast]; exact UInt8.ofNat_toNat
theorem F15_step (w o : List UInt8) (i : Nat) (hi : i < w.length) (h : w.length ≤ lim) (ho : o.length ≤ 5 * i) : F15.s58 KK (s15 w o i) = some (.inl (s15 w (o ++ esc (w.getD i 0)) (i + 1))) := by
  show F15.go58 KK (i : Int) (arr o) (arr w) = _
  rw [F15_eq, arr_size, ltD hi, dec0, Int.toNat_natCast, arr_get]
  generalize hc : w.getD i 0 = c
  simp only [cond_true, Bool.and_self]
  rw [bt_nat, put15_ok w o _ i 2 h hi ho (by omega), put15_ok w o _ i 2 h hi ho (by omega), put15_ok w o _ i 2 h hi ho (by omega), put15_ok w o _ i 2 h hi ho (by omega), put15_ok w o _ i 5 h hi ho (by omega), put15_ok w o _ i 1 h hi ho (by omega)]
  unfold esc
  cases (c.toNat : Int) == 92 <;> cases (c.toNat : Int) == 10 <;> cases (c.toNat : Int) == 9 <;> cases (c.toNat : Int) == 13 <;> cases decide ((c.toNat : Int) < 32) <;> cases decide ((c.toNat : Int) ≥ 127) <;> rfl
theorem F15_end (w o : List UInt8) (i : Nat) (hi : ¬ i < w.length) : F15.s58 KK (s15 w o i) = some (.inr ((arr o, ()), (), ())) := by
  show F15.go58 KK (i : Int) (arr o) (arr w) = _
  rw [F15_eq, arr_size, ltN hi]; rfl
theorem esc_loops (w : List UInt8) (h : w.length ≤ lim) : ∀ (m i : Nat) (o : List UInt8) (k k' : Nat), w.length - i = m → o.length ≤ 5 * i → m < k → m < k' →
    ∃ o', loopN (F14.s58 KK) k (s14 w o i) = some (((), ()), (ints o', ()), ()) ∧ loopN (F15.s58 KK) k' (s15 w o i) = some ((arr o', ()), (), ()) := by
  intro m
  induction m with
  | zero =>
    intro i o k k' hm ho hk hk'
    obtain ⟨k, rfl⟩ : ∃ i, k = i + 1 := ⟨k - 1, by omega⟩
    obtain ⟨k', rfl⟩ : ∃ i, k' = i + 1 := ⟨k' - 1, by omega⟩
    exact ⟨o, loopN_inr (F14_end w o i (by omega)), loopN_inr (F15_end w o i (by omega))⟩
  | succ m ih =>
    intro i o k k' hm ho hk hk'
    obtain ⟨k, rfl⟩ : ∃ i, k = i + 1 := ⟨k - 1, by omega⟩
    obtain ⟨k', rfl⟩ : ∃ i, k' = i + 1 := ⟨k' - 1, by omega⟩
    rw [loopN_inl (F14_step w o i (by omega) h ho), loopN_inl (F15_step w o i (by omega) h ho)]
    have := esc_len (w.getD i 0)
    exact ih (i + 1) _ k k' (by omega) (by simp only [List.length_append]; omega) (by omega) (by omega)
/-- the two escapes are one -/
theorem escapes (w : List UInt8) (h : w.length ≤ lim) : ∃ o', F14.go KK (arr w) = some ((arr o', ()), (), ()) ∧ F15.go KK (arr w) = some ((arr o', ()), (), ()) := by
  have h' : w.length ≤ 1048576 := h
  obtain ⟨o', h1, h2⟩ := esc_loops w h _ 0 [] KK KK rfl (by simp) (show w.length - 0 < 2000000 by omega) (show w.length - 0 < 2000000 by omega)
  refine ⟨o', ?_, ?_⟩
  · have e : F14.go KK (arr w) = Option.bind (loopN (F14.s58 KK) KK (s14 w [] 0)) fun y2 => some ((strOf y2.2.1.1, ()), (), ()) := by unfold F14.go F14.l_58; rfl
    rw [e, h1, Option.bind_some, strOf_ints]
  · have e : F15.go KK (arr w) = Option.bind (loopN (F15.s58 KK) KK (s15 w [] 0)) fun y2 => some ((y2.1.1, ()), (), ()) := by unfold F15.go F15.l_58; rfl
    rw [e, h2, Option.bind_some]
end Go.Proofs.Tryd.S

namespace Go.Proofs.Tryd.S
open Go Go.Ev
/-! ### one step of both readers behind a backslash -/
noncomputable def chkN (n : Nat) : Bool := match F20.go KK (n : Int) (arr L8) with
  | some ((j, ()), (), ()) => bif decide (0 ≤ j) then !Nat.beq n 99 && (Nat.blt n 48 || Nat.blt 55 n) else true
  | _ => false
theorem chkN_all : (List.range 256).all chkN = true := by kernel_rfl
theorem letterN (x : UInt8) {j : Int} (hj : F20.go KK (x.toNat : Int) (arr L8) = some ((j, ()), (), ())) (h0 : 0 ≤ j) : x.toNat ≠ 99 ∧ (x.toNat < 48 ∨ 55 < x.toNat) := by
  have h := List.all_eq_true.1 chkN_all x.toNat (List.mem_range.2 x.toNat_lt)
  unfold chkN at h
  rw [hj] at h
  simp only [decide_eq_true h0, cond_true, Bool.and_eq_true, Bool.or_eq_true, Bool.not_eq_true', Nat.blt_eq] at h
  refine ⟨fun e => ?_, h.2⟩
  have := h.1
  rw [e] at this; cases this
abbrev O13 : Type := ((Int × ByteArray × ByteArray × Bool × Int × Int × ByteArray × Int × Unit) × Unit × Unit) ⊕ ((Int × ByteArray × ByteArray × Bool × Int × Bool × Int × Int × ByteArray × Int × Unit) × Unit × Unit)
/-- a byte laid behind what was read, told as the first way out -/
noncomputable abbrev lay13 (w o : List UInt8) (i' v : Int) (b : Bool) (i1 n i : Int) : Option O13 :=
  Option.bind (F19.go KK v) (fun y11 => bif decide (ByteArray.size (arr o) + ByteArray.size y11.1.1 ≤ 9223372036854775807) then
    some (.inl ((i', arr w, ⟨⟨(arr o).data.toList ++ y11.1.1.data.toList⟩⟩, b, i1, n, arr w, i, ()), (), ())) else none)
theorem go3735_eq (w o : List UInt8) (b : Bool) (i1 n i y : Int) : F13.go3735 KK (arr w) b i1 n (arr w) i i (arr o) y = Option.bind (F20.go KK y (arr L8)) (fun y10 => bif decide (y10.1.1 ≥ 0) then
    bif decide (0 ≤ y10.1.1) && decide (y10.1.1 < 8) then lay13 w o (IntKind.i64.wrap (i + 2)) (((arr T8).data.getD y10.1.1.toNat 0).toNat : Int) b i1 n i else none else
    bif decide (y < 48) then bif decide (0 ≤ i) && decide (i < (((arr w).size : Nat) : Int)) then lay13 w o (IntKind.i64.wrap (i + 1)) (((arr w).data.getD i.toNat 0).toNat : Int) b i1 n i else none else
    bif decide (y > 55) then bif decide (0 ≤ i) && decide (i < (((arr w).size : Nat) : Int)) then lay13 w o (IntKind.i64.wrap (i + 1)) (((arr w).data.getD i.toNat 0).toNat : Int) b i1 n i else none else
    bif y == 48 then Option.bind (F13.go59775 KK (arr w) (decide (y > 55)) y b i1 n (arr w) i (arr o) (IntKind.i64.wrap (i + 5)) i) (fun y11 => some (.inr ((y11.1.1, y11.1.2.1, y11.1.2.2.1, y11.1.2.2.2.1, y11.1.2.2.2.2.1, y11.1.2.2.2.2.2.1, y11.1.2.2.2.2.2.2.1, y11.1.2.2.2.2.2.2.2.1, y11.1.2.2.2.2.2.2.2.2.1, y11.1.2.2.2.2.2.2.2.2.2.1, ()), (), ())))
    else Option.bind (F13.go59775 KK (arr w) (decide (y > 55)) y b i1 n (arr w) i (arr o) (IntKind.i64.wrap (i + 4)) i) (fun y11 => some (.inr ((y11.1.1, y11.1.2.1, y11.1.2.2.1, y11.1.2.2.2.1, y11.1.2.2.2.2.1, y11.1.2.2.2.2.2.1, y11.1.2.2.2.2.2.2.1, y11.1.2.2.2.2.2.2.2.1, y11.1.2.2.2.2.2.2.2.2.1, y11.1.2.2.2.2.2.2.2.2.2.1, ()), (), ())))) := by
  unfold F13.go3735; rfl
theorem go59775_eq (w o : List UInt8) (a1 : Bool) (a2 : Int) (a3 : Bool) (a4 a5 a7 a9 a10 : Int) : F13.go59775 KK (arr w) a1 a2 a3 a4 a5 (arr w) a7 (arr o) a9 a10 =
    Option.bind (loopN (F13.s478204 KK) KK ((IntKind.i64.wrap (a10 + 1), arr w, 0, a1, a2, a3, a4, a5, arr w, a7, arr o, a9, ()), (), ())) (fun y12 =>
      Option.bind (F19.go KK (IntKind.u8.wrap (Int.tmod y12.1.2.2.2.2.2.2.2.2.2.1 256))) (fun y13 => bif decide (ByteArray.size y12.1.2.2.2.2.2.2.2.2.2.2.1 + ByteArray.size y13.1.1 ≤ 9223372036854775807) then
        some ((y12.1.2.2.2.2.2.2.2.2.1, y12.1.1, ⟨⟨y12.1.2.2.2.2.2.2.2.2.2.2.1.data.toList ++ y13.1.1.data.toList⟩⟩, y12.1.2.1, y12.1.2.2.1, y12.1.2.2.2.1, y12.1.2.2.2.2.1, y12.1.2.2.2.2.2.1, y12.1.2.2.2.2.2.2.1, y12.1.2.2.2.2.2.2.2.1, ()), (), ()) else none)) := by
  unfold F13.go59775 F13.l_478204; rfl
theorem lay13_ok (w o : List UInt8) (i' v : Int) (b : Bool) (i1 n i : Int) (c : UInt8) (ho : o.length ≤ 8000000) (hv : v = (c.toNat : Int)) : lay13 w o i' v b i1 n i = some (.inl ((i', arr w, arr (o ++ [c]), b, i1, n, arr w, i, ()), (), ())) := by
  unfold lay13 F19.go
  simp only [Option.bind_some]
  rw [szS o _ ho, catS o _ c hv]; rfl
theorem u8n (n : Nat) : IntKind.u8.wrap (n : Int) = ((UInt8.ofNat n).toNat : Int) := by
  rw [IntKind.wrap_u8, UInt8.toNat_ofNat']; omega
theorem u8t (n : Nat) : IntKind.u8.wrap (Int.tmod (n : Int) 256) = ((UInt8.ofNat n).toNat : Int) := by
  rw [Int.tmod_eq_emod_of_nonneg (by omega), IntKind.wrap_u8, UInt8.toNat_ofNat']; omega
theorem F33_eq (b : List UInt8) (m : Nat) : F33.go KK (arr b) (m : Int) = Option.bind (loopN (F33.s28 KK) KK ((((0 : Nat) : Int), arr b, ((0 : Nat) : Int), (m : Int), ()), (), ())) (fun y3 => some (((IntKind.u8.wrap y3.1.2.1, y3.1.1, ()), ()), (), ())) := by
  unfold F33.go F33.l_28; rfl
end Go.Proofs.Tryd.S

namespace Go.Proofs.Tryd.S
open Go Go.Ev
/-- one step of both readers is one -/
def Step (w o : List UInt8) (i : Nat) : Prop :=
  (∃ (i' : Nat) (c : UInt8), i < i' ∧ i' ≤ w.length ∧ F12.s58 KK (sP w o i) = some (.inl (sP w (o ++ [c]) i')) ∧ F13.s58 KK (sR w o i) = some (.inl (sR w (o ++ [c]) i'))) ∨
  (F12.s58 KK (sP w o i) = some (.inr (.inl ((arr o, true, ()), (), ()))) ∧ F13.s58 KK (sR w o i) = some (.inr (.inl ((arr o, true, ()), (), ()))))
theorem P_put (w o : List UInt8) (i n : Nat) (c u : UInt8) (v m : Int) (hi : i < w.length) (h : w.length ≤ lim) (ho : o.length ≤ i) (hx : ((w.getD i 0).toNat : Int) = 92) (hn : n ≤ 10) (hu : u = if n = 0 then 92 else c)
    (hv : v = (c.toNat : Int)) (hm : m = (n : Int))
    (hf : F24.go KK (arr (w.drop (i + 1))) = some (((v, m, false, ()), ()), (), ())) : F12.s58 KK (sP w o i) = some (.inl (sP w (o ++ [u]) (i + n + 1))) := by
  have h' : w.length ≤ 1048576 := h
  subst hv; subst hm
  rw [F12_esc w o i hi h hx, hf]
  simp only [Option.bind_some, cond_false]
  rw [F12_put w o i n c u (show i ≤ 1048576 by omega) hn (show o.length ≤ 1048576 by omega) hu]
  simp only [Option.bind_some]
  rw [wadd1 (i + n) (by omega)]
theorem ne99 {y : UInt8} (h : y.toNat ≠ 99) : ((y.toNat : Int) == 99) = false := by rw [beq_eq_false_iff_ne]; omega
theorem R_inl (w o : List UInt8) (i i' : Nat) (c : UInt8) (hi : i + 1 < w.length) (h : w.length ≤ lim) (hx : ((w.getD i 0).toNat : Int) = 92) (hy : (w.getD (i + 1) 0).toNat ≠ 99) (b : Bool) (a1 a2 a3 : Int) (a4 : ByteArray)
    (hg : F13.go3735 KK (arr w) (((i + 1 : Nat) : Int) == (w.length : Int)) ((i + 1 : Nat) : Int) (w.length : Int) (arr w) (i : Int) (i : Int) (arr o) ((w.getD (i + 1) 0).toNat : Int) = some (.inl (((i' : Int), arr w, arr (o ++ [c]), b, a1, a2, a4, a3, ()), (), ()))) :
    F13.s58 KK (sR w o i) = some (.inl (sR w (o ++ [c]) i')) := by
  rw [F13_esc w o i hi h hx, ne99 hy, cond_false, hg]; rfl
theorem R_inr (w o : List UInt8) (i i' : Nat) (c : UInt8) (hi : i + 1 < w.length) (h : w.length ≤ lim) (hx : ((w.getD i 0).toNat : Int) = 92) (hy : (w.getD (i + 1) 0).toNat ≠ 99) (b b' : Bool) (a1 a2 a3 a5 : Int) (a4 : ByteArray)
    (hg : F13.go3735 KK (arr w) (((i + 1 : Nat) : Int) == (w.length : Int)) ((i + 1 : Nat) : Int) (w.length : Int) (arr w) (i : Int) (i : Int) (arr o) ((w.getD (i + 1) 0).toNat : Int) = some (.inr (((i' : Int), arr w, arr (o ++ [c]), b, a1, b', a2, a3, a4, a5, ()), (), ()))) :
    F13.s58 KK (sR w o i) = some (.inl (sR w (o ++ [c]) i')) := by
  rw [F13_esc w o i hi h hx, ne99 hy, cond_false, hg]; rfl
theorem drop_cons (w : List UInt8) (j : Nat) (h : j < w.length) : w.drop j = w.getD j 0 :: w.drop (j + 1) := by
  rw [List.drop_eq_getElem_cons h, List.getD_eq_getElem?_getD, List.getElem?_eq_getElem h]; rfl
theorem w2 (i n : Nat) (m : Int) (hm : m = (n : Int)) (h : i + n ≤ 1000000000) : IntKind.i64.wrap ((i : Int) + m) = ((i + n : Nat) : Int) := by subst hm; exact wadd i n h
/-- what the octal digits make, in the document's way, from the place where its loop starts -/
theorem go59775_ok (w o : List UInt8) (a1 : Bool) (a2 : Int) (a3 : Bool) (a4 a5 a7 a9 a10 : Int) (e p' n' : Nat) (ho : o.length ≤ 8000000)
    (hl : loopN (F13.s478204 KK) KK ((IntKind.i64.wrap (a10 + 1), arr w, 0, a1, a2, a3, a4, a5, arr w, a7, arr o, a9, ()), (), ()) = some ((arr w, a1, a2, a3, a4, a5, arr w, a7, (p' : Int), (n' : Int), arr o, ()), (), ())) :
    F13.go59775 KK (arr w) a1 a2 a3 a4 a5 (arr w) a7 (arr o) a9 a10 = some (((p' : Int), arr w, arr (o ++ [UInt8.ofNat n']), a1, a2, a3, a4, a5, arr w, a7, ()), (), ()) := by
  rw [go59775_eq, hl]
  unfold F19.go
  simp only [Option.bind_some]
  rw [szS o _ ho, catS o _ _ (u8t n')]; rfl
theorem oct_esc (w o : List UInt8) (i : Nat) (hi : i + 1 < w.length) (h : w.length ≤ lim) (ho : o.length ≤ i) (hx : ((w.getD i 0).toNat : Int) = 92) (j : Int) (h2 : F20.go KK ((w.getD (i + 1) 0).toNat : Int) (arr L8) = some ((j, ()), (), ())) (hj : j = -1)
    (hlo : 48 ≤ (w.getD (i + 1) 0).toNat) (hhi : (w.getD (i + 1) 0).toNat ≤ 55) : Step w o i := by
  have h' : w.length ≤ 1048576 := h
  have hd := drop_cons w (i + 1) hi
  have n99 : (w.getD (i + 1) 0).toNat ≠ 99 := by omega
  have iso : isO (w.getD (i + 1) 0) = true := by
    unfold isO
    rw [decide_eq_true (by omega : ((w.getD (i + 1) 0).toNat : Int) ≥ 48), decide_eq_true (by omega : ((w.getD (i + 1) 0).toNat : Int) ≤ 55)]; rfl
  have l1 : decide (((w.getD (i + 1) 0).toNat : Int) < 48) = false := decide_eq_false (by omega)
  have l2 : decide (((w.getD (i + 1) 0).toNat : Int) > 55) = false := decide_eq_false (by omega)
  subst hj
  left
  by_cases e48 : (w.getD (i + 1) 0).toNat = 48
  · have b48 : (((w.getD (i + 1) 0).toNat : Int) == 48) = true := by rw [beq_iff_eq]; omega
    obtain ⟨p', n', g1, g2, g3, g4, g5, g6⟩ := octal_loop w h (i + 2) (by omega) 3 (by omega) ⟨decide (((w.getD (i + 1) 0).toNat : Int) > 55), ((w.getD (i + 1) 0).toNat : Int), ((i + 1 : Nat) : Int) == (w.length : Int), ((i + 1 : Nat) : Int), (w.length : Int), arr w, (i : Int), arr o⟩ KK KK 3 0 0 KK 1999999 rfl (by omega) (by decide) (by decide) (by decide)
    refine ⟨i + 2 + p', UInt8.ofNat n', by omega, by omega, ?_, ?_⟩
    · have e : i + 2 + p' = i + (p' + 1) + 1 := by omega
      rw [e]
      refine P_put w o i (p' + 1) (UInt8.ofNat n') _ _ _ (by omega) h ho hx (by omega) (by rw [if_neg (by omega)]) (u8n n') rfl ?_
      rw [hd, F24_cons, ne99 n99, cond_false, b48, cond_true]
      have : F33.go KK (arr (w.drop (i + 1 + 1))) 3 = _ := F33_eq (w.drop (i + 1 + 1)) 3
      rw [this, g5]
      simp only [Option.bind_some]
      rw [wadd1 p' (by omega)]
    · refine R_inr w o i (i + 2 + p') (UInt8.ofNat n') hi h hx n99 (decide (((w.getD (i + 1) 0).toNat : Int) > 55)) (((i + 1 : Nat) : Int) == (w.length : Int)) ((w.getD (i + 1) 0).toNat : Int) ((i + 1 : Nat) : Int) (w.length : Int) (i : Int) (arr w) ?_
      rw [go3735_eq, h2]
      simp only [Option.bind_some]
      rw [decide_eq_false (by omega : ¬ ((-1 : Int) ≥ 0)), cond_false, l1, cond_false, l2, cond_false, b48, cond_true, ← l2]
      rw [go59775_ok w o _ _ _ _ _ _ _ _ 0 (i + 2 + p') n' (by omega)]
      · rfl
      · rw [w2 i 1 1 rfl (by omega), w2 i 5 5 rfl (by omega)]
        have s := F13_octal_step KK w (i + 1) 0 (i + 5) ⟨decide (((w.getD (i + 1) 0).toNat : Int) > 55), ((w.getD (i + 1) 0).toNat : Int), ((i + 1 : Nat) : Int) == (w.length : Int), ((i + 1 : Nat) : Int), (w.length : Int), arr w, (i : Int), arr o⟩ h
        rw [if_pos ⟨hi, by omega, iso⟩] at s
        have hm : more 0 (w.getD (i + 1) 0) = ((0 : Nat) : Int) := by
          have := more_eq (n := 0) (by omega) iso
          rw [e48] at this; exact this
        rw [hm] at s
        show loopN _ (1999999 + 1) _ = _
        rw [loopN_inl s]; exact g6
  · have b48 : (((w.getD (i + 1) 0).toNat : Int) == 48) = false := by rw [beq_eq_false_iff_ne]; omega
    obtain ⟨p', n', g1, g2, g3, g4, g5, g6⟩ := octal_loop w h (i + 1) (by omega) 3 (by omega) ⟨decide (((w.getD (i + 1) 0).toNat : Int) > 55), ((w.getD (i + 1) 0).toNat : Int), ((i + 1 : Nat) : Int) == (w.length : Int), ((i + 1 : Nat) : Int), (w.length : Int), arr w, (i : Int), arr o⟩ KK KK 3 0 0 KK KK rfl (by omega) (by decide) (by decide) (by decide)
    have hp := g4 (by omega) (by omega) iso
    refine ⟨i + 1 + p', UInt8.ofNat n', by omega, by omega, ?_, ?_⟩
    · have e : i + 1 + p' = i + p' + 1 := by omega
      rw [e]
      refine P_put w o i p' (UInt8.ofNat n') _ _ _ (by omega) h ho hx (by omega) (by rw [if_neg (by omega)]) (u8n n') rfl ?_
      have r1 : decide (((w.getD (i + 1) 0).toNat : Int) ≥ 49) = true := decide_eq_true (by omega)
      have r2 : decide (((w.getD (i + 1) 0).toNat : Int) ≤ 55) = true := decide_eq_true (by omega)
      rw [hd, F24_cons, ne99 n99, cond_false, b48, cond_false, r1, r2, ← hd]
      have : F33.go KK (arr (w.drop (i + 1))) 3 = _ := F33_eq (w.drop (i + 1)) 3
      rw [this, g5]; rfl
    · refine R_inr w o i (i + 1 + p') (UInt8.ofNat n') hi h hx n99 (decide (((w.getD (i + 1) 0).toNat : Int) > 55)) (((i + 1 : Nat) : Int) == (w.length : Int)) ((w.getD (i + 1) 0).toNat : Int) ((i + 1 : Nat) : Int) (w.length : Int) (i : Int) (arr w) ?_
      rw [go3735_eq, h2]
      simp only [Option.bind_some]
      rw [decide_eq_false (by omega : ¬ ((-1 : Int) ≥ 0)), cond_false, l1, cond_false, l2, cond_false, b48, cond_false, ← l2]
      rw [go59775_ok w o _ _ _ _ _ _ _ _ 0 (i + 1 + p') n' (by omega)]
      · rfl
      · rw [w2 i 1 1 rfl (by omega), w2 i 4 4 rfl (by omega)]
        exact g6
theorem let_esc (w o : List UInt8) (i : Nat) (hi : i + 1 < w.length) (h : w.length ≤ lim) (ho : o.length ≤ i) (hx : ((w.getD i 0).toNat : Int) = 92) (j u : Int) (h1 : F34.go KK ((w.getD (i + 1) 0).toNat : Int) = some (((u, true, ()), ()), (), ()))
    (h2 : F20.go KK ((w.getD (i + 1) 0).toNat : Int) (arr L8) = some ((j, ()), (), ())) (h0 : 0 ≤ j) (h8 : j < 8) (hu : u = ((T8.getD j.toNat 0).toNat : Int)) : Step w o i := by
  have h' : w.length ≤ 1048576 := h
  obtain ⟨n99, hn⟩ := letterN _ h2 h0
  have hd := drop_cons w (i + 1) hi
  have b48 : (((w.getD (i + 1) 0).toNat : Int) == 48) = false := by rw [beq_eq_false_iff_ne]; omega
  have r : (decide (((w.getD (i + 1) 0).toNat : Int) ≥ 49) && decide (((w.getD (i + 1) 0).toNat : Int) ≤ 55)) = false := by
    rw [Bool.and_eq_false_iff, decide_eq_false_iff_not, decide_eq_false_iff_not]; omega
  left
  refine ⟨i + 2, T8.getD j.toNat 0, by omega, by omega, ?_, ?_⟩
  · refine P_put w o i 1 (T8.getD j.toNat 0) _ u 1 (by omega) h ho hx (by omega) rfl hu rfl ?_
    rw [hd, F24_cons, ne99 n99, cond_false, b48, cond_false, r, cond_false, h1]; rfl
  · refine R_inl w o i (i + 2) (T8.getD j.toNat 0) hi h hx n99 (((i + 1 : Nat) : Int) == (w.length : Int)) ((i + 1 : Nat) : Int) (w.length : Int) (i : Int) (arr w) ?_
    rw [go3735_eq, h2]
    simp only [Option.bind_some]
    rw [decide_eq_true (by omega : j ≥ 0), cond_true, Bool.true_and, decide_eq_true h8, cond_true, w2 i 2 2 rfl (by omega)]
    exact lay13_ok w o _ _ _ _ _ _ _ (by omega) (by rw [arr_get])
theorem oth_esc (w o : List UInt8) (i : Nat) (hi : i + 1 < w.length) (h : w.length ≤ lim) (ho : o.length ≤ i) (hx : ((w.getD i 0).toNat : Int) = 92) (j u : Int) (h1 : F34.go KK ((w.getD (i + 1) 0).toNat : Int) = some (((u, false, ()), ()), (), ()))
    (h2 : F20.go KK ((w.getD (i + 1) 0).toNat : Int) (arr L8) = some ((j, ()), (), ())) (hj : j = -1) (n99 : (w.getD (i + 1) 0).toNat ≠ 99) (hn : (w.getD (i + 1) 0).toNat < 48 ∨ 55 < (w.getD (i + 1) 0).toNat) : Step w o i := by
  have h' : w.length ≤ 1048576 := h
  subst hj
  have hd := drop_cons w (i + 1) hi
  have b48 : (((w.getD (i + 1) 0).toNat : Int) == 48) = false := by rw [beq_eq_false_iff_ne]; omega
  have r : (decide (((w.getD (i + 1) 0).toNat : Int) ≥ 49) && decide (((w.getD (i + 1) 0).toNat : Int) ≤ 55)) = false := by
    rw [Bool.and_eq_false_iff, decide_eq_false_iff_not, decide_eq_false_iff_not]; omega
  left
  refine ⟨i + 1, 92, by omega, by omega, ?_, ?_⟩
  · refine P_put w o i 0 0 _ 0 0 (by omega) h ho hx (by omega) rfl rfl rfl ?_
    rw [hd, F24_cons, ne99 n99, cond_false, b48, cond_false, r, cond_false, h1]; rfl
  · refine R_inl w o i (i + 1) 92 hi h hx n99 (((i + 1 : Nat) : Int) == (w.length : Int)) ((i + 1 : Nat) : Int) (w.length : Int) (i : Int) (arr w) ?_
    rw [go3735_eq, h2]
    simp only [Option.bind_some]
    rw [decide_eq_false (by omega : ¬ ((-1 : Int) ≥ 0)), cond_false, w2 i 1 1 rfl (by omega)]
    have hl := lay13_ok w o ((i + 1 : Nat) : Int) (((arr w).data.getD (i : Int).toNat 0).toNat : Int) (((i + 1 : Nat) : Int) == (w.length : Int)) ((i + 1 : Nat) : Int) (w.length : Int) (i : Int) 92 (by omega) (by rw [Int.toNat_natCast, arr_get]; exact hx)
    rw [arr_size, dec0, ltD (by omega : i < w.length), Bool.and_self, cond_true]
    rcases hn with hn | hn
    · rw [decide_eq_true (by omega : ((w.getD (i + 1) 0).toNat : Int) < 48), cond_true]; exact hl
    · rw [decide_eq_false (by omega : ¬ ((w.getD (i + 1) 0).toNat : Int) < 48), cond_false, decide_eq_true (by omega : ((w.getD (i + 1) 0).toNat : Int) > 55), cond_true]; exact hl
theorem step (w o : List UInt8) (i : Nat) (hi : i < w.length) (h : w.length ≤ lim) (ho : o.length ≤ i) : Step w o i := by
  have h' : w.length ≤ 1048576 := h
  by_cases hx : ((w.getD i 0).toNat : Int) = 92
  · rcases Nat.lt_or_ge (i + 1) w.length with hi1 | hi1
    · by_cases n99 : (w.getD (i + 1) 0).toNat = 99
      · have b99 : (((w.getD (i + 1) 0).toNat : Int) == 99) = true := by rw [beq_iff_eq]; omega
        right
        refine ⟨?_, ?_⟩
        · rw [F12_esc w o i hi h hx, drop_cons w (i + 1) hi1, F24_cons, b99, cond_true]
          simp only [Option.bind_some, cond_true]
          rw [strOf_ints]
        · rw [F13_esc w o i hi1 h hx, b99, cond_true]
      · obtain ⟨j, u, b, h1, h2, hor⟩ := letters (w.getD (i + 1) 0)
        rcases hor with ⟨rfl, h0, h8, hu⟩ | ⟨rfl, hj⟩
        · exact let_esc w o i hi1 h ho hx j u h1 h2 h0 h8 hu
        · by_cases hn : (w.getD (i + 1) 0).toNat < 48 ∨ 55 < (w.getD (i + 1) 0).toNat
          · exact oth_esc w o i hi1 h ho hx j u h1 h2 hj n99 hn
          · exact oct_esc w o i hi1 h ho hx j h2 hj (by omega) (by omega)
    · left
      refine ⟨i + 1, 92, by omega, by omega, ?_, F13_last w o i (by omega) h (show o.length ≤ 1048576 by omega) hx⟩
      refine P_put w o i 0 0 _ 0 0 hi h ho hx (by omega) rfl rfl rfl ?_
      rw [List.drop_of_length_le hi1]; exact F24_nil
  · left
    exact ⟨i + 1, w.getD i 0, by omega, by omega, F12_plain w o i hi h (show o.length ≤ 1048576 by omega) hx, F13_plain w o i hi h (show o.length ≤ 1048576 by omega) hx⟩
end Go.Proofs.Tryd.S

namespace Go.Proofs.Tryd.S
open Go Go.Ev
/-- both readers, from any place -/
theorem read_loops (w : List UInt8) (h : w.length ≤ lim) : ∀ (m i : Nat) (o : List UInt8) (k k' : Nat), w.length - i ≤ m → o.length ≤ i → m < k → m < k' →
    ∃ (o' : List UInt8) (s : Bool), (bif s then loopN (F12.s58 KK) k (sP w o i) = some (.inl ((arr o', true, ()), (), ())) ∧ loopN (F13.s58 KK) k' (sR w o i) = some (.inl ((arr o', true, ()), (), ()))
      else loopN (F12.s58 KK) k (sP w o i) = some (.inr (((), ()), (ints o', ()), ())) ∧ loopN (F13.s58 KK) k' (sR w o i) = some (.inr ((arr o', ()), (), ()))) := by
  intro m
  induction m with
  | zero =>
    intro i o k k' hm ho hk hk'
    obtain ⟨k, rfl⟩ : ∃ i, k = i + 1 := ⟨k - 1, by omega⟩
    obtain ⟨k', rfl⟩ : ∃ i, k' = i + 1 := ⟨k' - 1, by omega⟩
    exact ⟨o, false, loopN_inr (F12_end w o i (by omega)), loopN_inr (F13_end w o i (by omega))⟩
  | succ m ih =>
    intro i o k k' hm ho hk hk'
    obtain ⟨k, rfl⟩ : ∃ i, k = i + 1 := ⟨k - 1, by omega⟩
    obtain ⟨k', rfl⟩ : ∃ i, k' = i + 1 := ⟨k' - 1, by omega⟩
    by_cases hi : i < w.length
    · rcases step w o i hi h ho with ⟨i', c, g1, g2, g3, g4⟩ | ⟨g3, g4⟩
      · rw [loopN_inl g3, loopN_inl g4]
        exact ih i' _ k k' (by omega) (by simp only [List.length_append, List.length_cons, List.length_nil]; omega) (by omega) (by omega)
      · exact ⟨o, true, loopN_inr g3, loopN_inr g4⟩
    · exact ⟨o, false, loopN_inr (F12_end w o i hi), loopN_inr (F13_end w o i hi)⟩
theorem reads (w : List UInt8) (h : w.length ≤ lim) : ∃ (o' : List UInt8) (s : Bool), F12.go KK (arr w) = some (((arr o', s, ()), ()), (), ()) ∧ F13.go KK (arr w) = some (((arr o', s, ()), ()), (), ()) := by
  have h' : w.length ≤ 1048576 := h
  obtain ⟨o', s, hh⟩ := read_loops w h w.length 0 [] KK KK (by omega) (by simp) (show w.length < 2000000 by omega) (show w.length < 2000000 by omega)
  have e1 : F12.go KK (arr w) = Option.bind (loopN (F12.s58 KK) KK (sP w [] 0)) (fun y2 => Sum.elim (fun y3 => some (((y3.1.1, y3.1.2.1, ()), ()), (), ())) (fun y3 => some (((strOf y3.2.1.1, false, ()), ()), (), ())) y2) := by unfold F12.go F12.l_58; rfl
  have e2 : F13.go KK (arr w) = Option.bind (loopN (F13.s58 KK) KK (sR w [] 0)) (fun y2 => Sum.elim (fun y3 => some (((y3.1.1, y3.1.2.1, ()), ()), (), ())) (fun y3 => some (((y3.1.1, false, ()), ()), (), ())) y2) := by unfold F13.go F13.l_58; rfl
  refine ⟨o', s, ?_, ?_⟩
  · rw [e1]
    cases s <;> (simp only [cond_true, cond_false] at hh; rw [hh.1])
    · show some (((strOf (ints o'), false, ()), ()), (), ()) = _
      rw [strOf_ints]
    · rfl
  · rw [e2]
    cases s <;> (simp only [cond_true, cond_false] at hh; rw [hh.2]) <;> rfl
/-- PrintEscapes: the readers and the writers answer alike -/
theorem printEscapes (w : List UInt8) (h : w.length ≤ lim) : F4.go KK (arr w) = some (F4.r true) := by
  obtain ⟨o', s, h1, h2⟩ := reads w h
  obtain ⟨o2, h3, h4⟩ := escapes w h
  unfold F4.go
  rw [h1, h2, h3, h4]
  simp only [Option.bind_some]
  have hs : (s == s) = true := by cases s <;> rfl
  rw [show ((arr o').toList == (arr o').toList) = true from beq_self_eq_true _, hs, show ((arr o2).toList == (arr o2).toList) = true from beq_self_eq_true _]
  rfl
theorem printEscapes' (a : ByteArray) (h : a.size ≤ 1048576) : ∃ k, F4.go k a = some ((true, ()), (), ()) := ⟨KK, printEscapes a.data.toList h⟩
end Go.Proofs.Tryd.S

