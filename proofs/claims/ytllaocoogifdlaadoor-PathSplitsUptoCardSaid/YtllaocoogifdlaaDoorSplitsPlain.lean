/- The plain law: what the functions that the law compares make is the same, over lists and numbers alone. -/
import Derived.Test.YtllaocoogifdlaaDoorSplitsWalk2
import Derived.Test.YtllaocoogifdlaaDoorEv4
import Derived.KernelRfl
set_option linter.unusedVariables false
set_option linter.unusedSimpArgs false
set_option linter.unusedSectionVars false
set_option maxRecDepth 100000
namespace Go.Proofs.Tryd.S
open Go Go.Ev
theorem loopN_inr {A B : Type} {f : A → Option (A ⊕ B)} {k : Nat} {x : A} {y : B} (h : f x = some (.inr y)) : loopN f (k + 1) x = some y := by
  unfold loopN; rw [h]
theorem loopN_inl {A B : Type} {f : A → Option (A ⊕ B)} {k : Nat} {x x' : A} (h : f x = some (.inl x')) : loopN f (k + 1) x = loopN f k x' := by
  rw [loopN, h]
abbrev big : Nat := 140737488351232
theorem wz (n : Nat) (h : n ≤ big) : IntKind.i64.wrap (n : Int) = (n : Int) := by
  have h' : n ≤ 140737488351232 := h
  rw [wrap_id (by omega) (by omega)]
theorem wadd1 (a : Nat) (h : a + 1 ≤ big) : IntKind.i64.wrap ((a : Int) + 1) = ((a + 1 : Nat) : Int) := by
  have h' : a + 1 ≤ 140737488351232 := h
  rw [wrap_id (by omega) (by omega)]; omega
theorem wsub1 (a : Nat) (h : a + 1 ≤ big) : IntKind.i64.wrap (((a + 1 : Nat) : Int) - 1) = (a : Int) := by
  have h' : a + 1 ≤ 140737488351232 := h
  rw [wrap_id (by omega) (by omega)]; omega
theorem tl_beq (a b : List UInt8) : ((arr a).toList == (arr b).toList) = (a == b) := by rw [arr_toList, arr_toList]
theorem nil_beq (a : List UInt8) : (a == []) = a.isEmpty := by cases a <;> rfl
theorem get_snoc (m : List UInt8) (c : UInt8) : (m ++ [c]).getD m.length 0 = c := by simp
theorem ext0 (l : List UInt8) (n : Nat) : (arr l).extract 0 n = arr (l.take n) := by rw [arr_extract]; simp
theorem extE (l : List UInt8) (i n : Nat) (h : n = l.length) : (arr l).extract i n = arr (l.drop i) := by subst h; exact arr_extract_size l i
theorem beq47 (c : UInt8) : ((c.toNat : Int) == 47) = (c == 47) := by
  rw [Bool.eq_iff_iff]
  simp only [beq_iff_eq]
  constructor
  · intro h
    have : c.toNat = (47 : UInt8).toNat := by have : (47 : UInt8).toNat = 47 := rfl; omega
    exact UInt8.toNat_inj.1 this
  · intro h; subst h; rfl
theorem dec0 (p : Nat) : decide ((0 : Int) ≤ (p : Int)) = true := decide_eq_true (by omega)
theorem dec0' (p : Nat) : decide ((p : Int) ≥ 0) = true := decide_eq_true (by omega)
theorem ltD {i n : Nat} (h : i < n) : decide ((i : Int) < (n : Int)) = true := decide_eq_true (by omega)
theorem leD {i n : Nat} (h : i ≤ n) : decide ((i : Int) ≤ (n : Int)) = true := decide_eq_true (by omega)
theorem ltN {i n : Nat} (h : ¬ i < n) : decide ((i : Int) < (n : Int)) = false := decide_eq_false (by omega)
theorem leN {i n : Nat} (h : ¬ i ≤ n) : decide ((i : Int) ≤ (n : Int)) = false := decide_eq_false (by omega)
theorem gtD {n : Nat} (h : 0 < n) : decide ((n : Int) > 0) = true := decide_eq_true (by omega)
/-- without slashes at its end -/
def rtrim (l : List UInt8) : List UInt8 := (l.reverse.dropWhile (· == 47)).reverse
theorem rtrim_nil : rtrim [] = [] := rfl
theorem rtrim_snoc (m : List UInt8) (c : UInt8) : rtrim (m ++ [c]) = if c == 47 then rtrim m else m ++ [c] := by
  unfold rtrim
  rw [List.reverse_append]
  show (List.dropWhile (· == 47) (c :: m.reverse)).reverse = _
  rw [List.dropWhile_cons]
  by_cases h : (c == 47) = true
  · rw [if_pos h, if_pos h]
  · rw [if_neg h, if_neg h]; simp
theorem snoc_cases (l : List UInt8) : l = [] ∨ ∃ m c, l = m ++ [c] := by
  rcases List.eq_nil_or_concat l with h | ⟨m, c, h⟩
  · exact .inl h
  · exact .inr ⟨m, c, by simpa using h⟩
theorem F40_nil (k : Nat) : F40.s12 k ((arr [], ()), (), ()) = some (.inr ((arr [], ()), (), ())) := rfl
theorem F40_snoc (k : Nat) (m : List UInt8) (c : UInt8) (h : m.length + 1 ≤ big) : F40.s12 k ((arr (m ++ [c]), ()), (), ()) = if c == 47 then some (.inl ((arr m, ()), (), ())) else some (.inr ((arr (m ++ [c]), ()), (), ())) := by
  show F40.go12 k (arr (m ++ [c])) = _
  unfold F40.go12
  have hl : (m ++ [c]).length = m.length + 1 := by simp
  rw [arr_size, hl, wsub1 _ h, Int.toNat_natCast, arr_get, get_snoc, beq47, ext0]
  have h1 : decide (((m.length + 1 : Nat) : Int) > 0) = true := decide_eq_true (by omega)
  have h2 : (decide ((0 : Int) ≤ (m.length : Int)) && decide ((m.length : Int) < ((m.length + 1 : Nat) : Int))) = true := by simp; omega
  have h3 : (decide ((0 : Int) ≤ (m.length : Int)) && decide ((m.length : Int) ≤ ((m.length + 1 : Nat) : Int)) && true) = true := by simp; omega
  rw [h1, h2, h3]
  simp only [cond_true]
  rw [show (m ++ [c]).take m.length = m by simp]
  cases hc : (c == 47) <;> rfl
theorem F40_loop : ∀ (n : Nat) (l : List UInt8) (k q : Nat), l.length = n → l.length ≤ big → n < k → loopN (F40.s12 q) k ((arr l, ()), (), ()) = some ((arr (rtrim l), ()), (), ()) := by
  intro n
  induction n with
  | zero =>
    intro l k q hl _ hk
    have : l = [] := List.length_eq_zero_iff.1 hl
    subst this
    obtain ⟨k, rfl⟩ : ∃ k', k = k' + 1 := ⟨k - 1, by omega⟩
    exact loopN_inr (F40_nil q)
  | succ n ih =>
    intro l k q hl hb hk
    obtain ⟨k, rfl⟩ : ∃ k', k = k' + 1 := ⟨k - 1, by omega⟩
    rcases snoc_cases l with rfl | ⟨m, c, rfl⟩
    · simp at hl
    · have hl' : m.length + 1 = n + 1 := by simpa using hl
      have hb' : m.length + 1 ≤ big := by simpa using hb
      have hs := F40_snoc q m c hb'
      rw [rtrim_snoc]
      by_cases hc : (c == 47) = true
      · rw [if_pos hc] at hs ⊢
        rw [loopN_inl hs]
        exact ih m k q (by omega) (by omega) (by omega)
      · rw [if_neg hc] at hs ⊢
        exact loopN_inr hs
theorem F40_eq (k : Nat) (l : List UInt8) (h : l.length ≤ big) (hk : l.length < k) : F40.go k (arr l) = some ((arr (rtrim l), ()), (), ()) := by
  show Option.bind (loopN (F40.s12 k) k ((arr l, ()), (), ())) _ = _
  rw [F40_loop _ l k k rfl h hk]; rfl
/-! the program's: trimRightByte -/
theorem F49_nil (k : Nat) : F49.s12 k ((arr [], 47, ()), (), ()) = some (.inr ((arr [], ()), (), ())) := rfl
theorem F49_snoc (k : Nat) (m : List UInt8) (c : UInt8) (h : m.length + 1 ≤ big) : F49.s12 k ((arr (m ++ [c]), 47, ()), (), ()) = if c == 47 then some (.inl ((arr m, 47, ()), (), ())) else some (.inr ((arr (m ++ [c]), ()), (), ())) := by
  show F49.go12 k (arr (m ++ [c])) 47 = _
  unfold F49.go12
  have hl : (m ++ [c]).length = m.length + 1 := by simp
  rw [arr_size, hl, wsub1 _ h, Int.toNat_natCast, arr_get, get_snoc, beq47, ext0]
  have h1 : decide (((m.length + 1 : Nat) : Int) > 0) = true := decide_eq_true (by omega)
  have h2 : (decide ((0 : Int) ≤ (m.length : Int)) && decide ((m.length : Int) < ((m.length + 1 : Nat) : Int))) = true := by simp; omega
  have h3 : (decide ((0 : Int) ≤ (m.length : Int)) && decide ((m.length : Int) ≤ ((m.length + 1 : Nat) : Int)) && true) = true := by simp; omega
  rw [h1, h2, h3]
  simp only [cond_true]
  rw [show (m ++ [c]).take m.length = m by simp]
  cases hc : (c == 47) <;> rfl
theorem F49_loop : ∀ (n : Nat) (l : List UInt8) (k q : Nat), l.length = n → l.length ≤ big → n < k → loopN (F49.s12 q) k ((arr l, 47, ()), (), ()) = some ((arr (rtrim l), ()), (), ()) := by
  intro n
  induction n with
  | zero =>
    intro l k q hl _ hk
    have : l = [] := List.length_eq_zero_iff.1 hl
    subst this
    obtain ⟨k, rfl⟩ : ∃ k', k = k' + 1 := ⟨k - 1, by omega⟩
    exact loopN_inr (F49_nil q)
  | succ n ih =>
    intro l k q hl hb hk
    obtain ⟨k, rfl⟩ : ∃ k', k = k' + 1 := ⟨k - 1, by omega⟩
    rcases snoc_cases l with rfl | ⟨m, c, rfl⟩
    · simp at hl
    · have hl' : m.length + 1 = n + 1 := by simpa using hl
      have hb' : m.length + 1 ≤ big := by simpa using hb
      have hs := F49_snoc q m c hb'
      rw [rtrim_snoc]
      by_cases hc : (c == 47) = true
      · rw [if_pos hc] at hs ⊢
        rw [loopN_inl hs]
        exact ih m k q (by omega) (by omega) (by omega)
      · rw [if_neg hc] at hs ⊢
        exact loopN_inr hs
theorem F49_eq (k : Nat) (l : List UInt8) (h : l.length ≤ big) (hk : l.length < k) : F49.go k (arr l) 47 = some ((arr (rtrim l), ()), (), ()) := by
  show Option.bind (loopN (F49.s12 k) k ((arr l, 47, ()), (), ())) _ = _
  rw [F49_loop _ l k k rfl h hk]; rfl
theorem sl_ne : ((arr [47]).toList == (⟨⟨[]⟩⟩ : ByteArray).toList) = false := (tl_beq [47] []).trans rfl
/-- TrimRight by slashes -/
theorem F37_eq (k : Nat) (l : List UInt8) (h : l.length ≤ big) (hk : l.length < k) : F37.go k (arr l) (arr [47]) = some ((arr (rtrim l), ()), (), ()) := by
  unfold F37.go
  have e1 : ((arr l).toList == (⟨⟨[]⟩⟩ : ByteArray).toList) = l.isEmpty := (tl_beq l []).trans (nil_beq l)
  rw [e1]
  cases l with
  | nil => rfl
  | cons a r =>
    rw [sl_ne]
    simp only [List.isEmpty_cons, cond_false]
    show Option.bind (F49.go k (arr (a :: r)) 47) (fun y3 => some ((y3.1.1, ()), (), ())) = _
    rw [F49_eq k _ h hk]; rfl
/-! trimLeftByte -/
theorem F59_loop : ∀ (l : List UInt8) (k q : Nat), l.length < k → loopN (F59.s12 q) k ((arr l, 47, ()), (), ()) = some ((arr (l.dropWhile (· == 47)), ()), (), ())
  | [], k, q, hk => by
    obtain ⟨k, rfl⟩ : ∃ k', k = k' + 1 := ⟨k - 1, by omega⟩
    exact loopN_inr rfl
  | a :: r, k, q, hk => by
    obtain ⟨k, rfl⟩ : ∃ k', k = k' + 1 := ⟨k - 1, by omega⟩
    have hs : F59.s12 q ((arr (a :: r), 47, ()), (), ()) = if a == 47 then some (.inl ((arr r, 47, ()), (), ())) else some (.inr ((arr (a :: r), ()), (), ())) := by
      show F59.go12 q (arr (a :: r)) 47 = _
      unfold F59.go12
      have h1 : decide (((arr (a :: r)).size : Int) > 0) = true := decide_eq_true (by show ((r.length + 1 : Nat) : Int) > 0; omega)
      have h3 : decide (1 ≤ ((arr (a :: r)).size : Int)) = true := decide_eq_true (by show 1 ≤ ((r.length + 1 : Nat) : Int); omega)
      rw [h1, h3, arr_get, arr_extract_size]
      simp only [cond_true]
      show (bif ((a.toNat : Int) == 47) then _ else _) = _
      rw [beq47]
      cases hc : (a == 47) <;> rfl
    rw [List.dropWhile_cons]
    by_cases hc : (a == 47) = true
    · rw [if_pos hc] at hs ⊢
      rw [loopN_inl hs]
      exact F59_loop r k q (by simp only [List.length_cons] at hk; omega)
    · rw [if_neg hc] at hs ⊢
      exact loopN_inr hs
theorem F59_eq (k : Nat) (l : List UInt8) (hk : l.length < k) : F59.go k (arr l) 47 = some ((arr (l.dropWhile (· == 47)), ()), (), ()) := by
  show Option.bind (loopN (F59.s12 k) k ((arr l, 47, ()), (), ())) _ = _
  rw [F59_loop l k k hk]; rfl
theorem rtrim_length (l : List UInt8) : (rtrim l).length ≤ l.length := by
  unfold rtrim
  rw [List.length_reverse]
  have := (List.dropWhile_suffix (l := l.reverse) (· == 47)).length_le
  rw [List.length_reverse] at this; exact this
/-- Trim by slashes -/
theorem F48_eq (k : Nat) (l : List UInt8) (h : l.length ≤ big) (hk : l.length < k) : F48.go k (arr l) (arr [47]) = some ((arr ((rtrim l).dropWhile (· == 47)), ()), (), ()) := by
  unfold F48.go
  have e1 : ((arr l).toList == (⟨⟨[]⟩⟩ : ByteArray).toList) = l.isEmpty := (tl_beq l []).trans (nil_beq l)
  rw [e1]
  cases l with
  | nil => rfl
  | cons a r =>
    rw [sl_ne]
    simp only [List.isEmpty_cons, cond_false]
    show Option.bind (F49.go k (arr (a :: r)) 47) (fun y3 => Option.bind (F59.go k y3.1.1 47) (fun y4 => some ((y4.1.1, ()), (), ()))) = _
    rw [F49_eq k _ h hk]
    show Option.bind (F59.go k (arr (rtrim (a :: r))) 47) (fun y4 => some ((y4.1.1, ()), (), ())) = _
    rw [F59_eq k _ (by have := rtrim_length (a :: r); omega)]; rfl
/-- what is left of a text of slashes alone -/
theorem trim_empty (l : List UInt8) : ((rtrim l).dropWhile (· == 47)).isEmpty = (rtrim l).isEmpty := by
  rcases snoc_cases (rtrim l) with h | ⟨m, c, h⟩
  · rw [h]; rfl
  · have hc : (c == 47) = false := by
      rcases snoc_cases l with rfl | ⟨m', c', rfl⟩
      · rw [rtrim_nil] at h; simp at h
      · -- the last byte that stays is no slash
        have key : ∀ (l : List UInt8) m c, rtrim l = m ++ [c] → (c == 47) = false := by
          intro l
          unfold rtrim
          intro m c hh
          have hh2 : l.reverse.dropWhile (· == 47) = c :: m.reverse := by
            have := congrArg List.reverse hh
            simpa using this
          have := List.head_dropWhile_not (p := fun x : UInt8 => x == 47) (l := l.reverse) (by rw [hh2]; simp)
          simp only [hh2, List.head_cons] at this
          exact this
        exact key _ m c h
    rw [h]
    have : (m ++ [c]).dropWhile (· == 47) ≠ [] := by
      intro e
      have := List.takeWhile_append_dropWhile (p := fun x : UInt8 => x == 47) (l := m ++ [c])
      rw [e, List.append_nil] at this
      have hall : ∀ x ∈ List.takeWhile (fun x : UInt8 => x == 47) (m ++ [c]), (x == 47) = true := fun x hx => List.all_eq_true.1 (List.all_takeWhile) x hx
      rw [this] at hall
      have := hall c (by simp)
      rw [hc] at this; cases this
    cases hh : (m ++ [c]).dropWhile (· == 47) with
    | nil => exact absurd hh this
    | cons a r => simp
def kindOf (l : List UInt8) : Int := if l.isEmpty then 0 else if (rtrim l).isEmpty then 1 else 2
theorem F36_eq (k : Nat) (l : List UInt8) (h : l.length ≤ big) (hk : l.length < k) : F36.go k (arr l) = some ((kindOf l, ()), (), ()) := by
  unfold F36.go kindOf
  have e1 : ((arr l).toList == (⟨⟨[]⟩⟩ : ByteArray).toList) = l.isEmpty := (tl_beq l []).trans (nil_beq l)
  rw [e1]
  cases l with
  | nil => rfl
  | cons a r =>
    show Option.bind (F48.go k (arr (a :: r)) (arr [47])) _ = _
    rw [F48_eq k _ h hk]
    show (bif ((arr ((rtrim (a :: r)).dropWhile (· == 47))).toList == (arr []).toList) then _ else _) = _
    rw [tl_beq, nil_beq, trim_empty]
    cases (rtrim (a :: r)).isEmpty <;> rfl
end Go.Proofs.Tryd.S

namespace Go.Proofs.Tryd.S
open Go Go.Ev
/-- the place behind the last slash -/
def lastSl (l : List UInt8) : Nat := l.length - (l.reverse.takeWhile (fun x => !(x == 47))).length
theorem lastSl_snoc (m : List UInt8) (c : UInt8) : lastSl (m ++ [c]) = if c == 47 then m.length + 1 else lastSl m := by
  unfold lastSl
  rw [List.reverse_append, List.length_append]
  show m.length + 1 - (List.takeWhile (fun x => !(x == 47)) (c :: m.reverse)).length = _
  rw [List.takeWhile_cons]
  cases hc : (c == 47)
  · have := (List.takeWhile_prefix (l := m.reverse) (fun x => !(x == 47))).length_le
    rw [List.length_reverse] at this
    simp
  · simp
theorem lastSl_le (l : List UInt8) : lastSl l ≤ l.length := by unfold lastSl; omega
theorem F53_loop : ∀ (n : Nat) (m t : List UInt8) (k q : Nat), m.length = n → (m ++ t).length ≤ big → n < k →
    loopN (F53.s26 q) k ((((m.length : Nat) : Int) - 1, 47, arr (m ++ t), ()), (), ()) = some (if lastSl m = 0 then .inr ((), (), ()) else .inl ((((lastSl m : Nat) : Int) - 1, ()), (), ())) := by
  intro n
  induction n with
  | zero =>
    intro m t k q hl _ hk
    have : m = [] := List.length_eq_zero_iff.1 hl
    subst this
    obtain ⟨k, rfl⟩ : ∃ k', k = k' + 1 := ⟨k - 1, by omega⟩
    exact loopN_inr rfl
  | succ n ih =>
    intro m t k q hl hb hk
    obtain ⟨k, rfl⟩ : ∃ k', k = k' + 1 := ⟨k - 1, by omega⟩
    rcases snoc_cases m with rfl | ⟨m, c, rfl⟩
    · simp at hl
    · have hl' : m.length = n := by simpa using hl
      have hb' : m.length + 1 + t.length ≤ big := by rw [List.length_append, List.length_append] at hb; exact hb
      have hb2 : m.length + 1 + t.length ≤ 140737488351232 := hb'
      have e0 : (((m ++ [c]).length : Nat) : Int) - 1 = (m.length : Int) := by simp
      rw [e0, lastSl_snoc]
      have hg : (m ++ [c] ++ t).getD m.length 0 = c := by simp
      have hs : F53.s26 q (((m.length : Int), 47, arr (m ++ [c] ++ t), ()), (), ()) = if c == 47 then some (.inr (.inl (((m.length : Int), ()), (), ()))) else some (.inl ((((m.length : Nat) : Int) - 1, 47, arr (m ++ [c] ++ t), ()), (), ())) := by
        show F53.go26 q (m.length : Int) 47 (arr (m ++ [c] ++ t)) = _
        unfold F53.go26
        have hsz : (m ++ [c] ++ t).length = m.length + 1 + t.length := by simp; omega
        rw [arr_size, hsz, dec0', ltD (by omega), Int.toNat_natCast, arr_get, hg, beq47, wrap_id (by omega) (by omega)]
        cases hc : (c == 47) <;> rfl
      by_cases hc : (c == 47) = true
      · rw [if_pos hc] at hs ⊢
        rw [loopN_inr hs, if_neg (by omega)]
        have : (((m.length + 1 : Nat) : Int) - 1) = (m.length : Int) := by omega
        rw [this]
      · rw [if_neg hc] at hs ⊢
        rw [loopN_inl hs]
        have := ih m ([c] ++ t) k q hl' (by simp; show _ ≤ big; omega) (by omega)
        rw [← List.append_assoc] at this
        exact this
theorem F38_eq (k : Nat) (l : List UInt8) (h : l.length ≤ big) (hk : l.length < k) : F38.go k (arr l) 47 = some ((((lastSl l : Nat) : Int) - 1, ()), (), ()) := by
  have h' : l.length ≤ 140737488351232 := h
  have e : F53.go k (arr l) 47 = some ((((lastSl l : Nat) : Int) - 1, ()), (), ()) := by
    show Option.bind (loopN (F53.s26 k) k ((IntKind.i64.wrap (((arr l).size : Int) - 1), 47, arr l, ()), (), ())) _ = _
    have e1 : IntKind.i64.wrap (((arr l).size : Int) - 1) = (l.length : Int) - 1 := by rw [arr_size, wrap_id (by omega) (by omega)]
    have := F53_loop l.length l [] k k rfl (by simpa using h) hk
    rw [List.append_nil] at this
    rw [e1, this]
    by_cases hz : lastSl l = 0
    · rw [if_pos hz, hz]; rfl
    · rw [if_neg hz]; rfl
  unfold F38.go
  rw [e]; rfl
/-! the document's -/
theorem F41_loop : ∀ (n : Nat) (m t : List UInt8) (k q : Nat), t.length = n → (m ++ t).length ≤ big → n < k →
    loopN (F41.s58 q) k (((m.length : Int), arr (m ++ t), (lastSl m : Int), ()), (), ()) = some (((lastSl (m ++ t) : Int), ()), (), ()) := by
  intro n
  induction n with
  | zero =>
    intro m t k q hl _ hk
    have : t = [] := List.length_eq_zero_iff.1 hl
    subst this
    obtain ⟨k, rfl⟩ : ∃ k', k = k' + 1 := ⟨k - 1, by omega⟩
    rw [List.append_nil]
    refine loopN_inr ?_
    show F41.go58 q (m.length : Int) (arr m) (lastSl m : Int) = _
    unfold F41.go58
    rw [arr_size, decide_eq_false (by omega)]; rfl
  | succ n ih =>
    intro m t k q hl hb hk
    obtain ⟨k, rfl⟩ : ∃ k', k = k' + 1 := ⟨k - 1, by omega⟩
    cases t with
    | nil => simp at hl
    | cons c t =>
      have hl' : t.length = n := by simpa using hl
      have hb' : m.length + 1 + t.length ≤ big := by rw [List.length_append, List.length_cons] at hb; show _ ≤ 140737488351232; have hb : m.length + (t.length + 1) ≤ 140737488351232 := hb; omega
      have hb2 : m.length + 1 + t.length ≤ 140737488351232 := hb'
      have e : m ++ c :: t = m ++ [c] ++ t := by simp
      have hs : F41.s58 q (((m.length : Int), arr (m ++ [c] ++ t), (lastSl m : Int), ()), (), ()) = some (.inl ((((m ++ [c]).length : Int), arr (m ++ [c] ++ t), (lastSl (m ++ [c]) : Int), ()), (), ())) := by
        show F41.go58 q (m.length : Int) (arr (m ++ [c] ++ t)) (lastSl m : Int) = _
        unfold F41.go58
        have hsz : (m ++ [c] ++ t).length = m.length + 1 + t.length := by simp; omega
        have hg : (m ++ [c] ++ t).getD m.length 0 = c := by simp
        rw [arr_size, hsz, dec0, ltD (by omega), Int.toNat_natCast, arr_get, hg, beq47, wadd1 _ (by show _ ≤ 140737488351232; omega), lastSl_snoc, List.length_append]
        cases hc : (c == 47) <;> rfl
      rw [e, loopN_inl hs]
      exact ih (m ++ [c]) t k q hl' (by rw [← e]; exact hb) (by omega)
theorem F41_eq (k : Nat) (l : List UInt8) (h : l.length ≤ big) (hk : l.length < k) : F41.go k (arr l) = some (((lastSl l : Int), ()), (), ()) := by
  have := F41_loop l.length [] l k k rfl h hk
  show Option.bind (loopN (F41.s58 k) k ((((0 : Nat) : Int), arr l, ((0 : Nat) : Int), ()), (), ())) _ = _
  rw [List.nil_append] at this
  have e : lastSl [] = 0 := rfl
  rw [e] at this
  rw [show (([] : List UInt8).length) = 0 from rfl] at this
  rw [this]; rfl
/-! ends -/
def endsL (s t : List UInt8) : Bool := decide (t.length ≤ s.length) && s.drop (s.length - t.length) == t
theorem wsubN (a b : Nat) (h : a ≤ big) (hb : b ≤ a) : IntKind.i64.wrap ((a : Int) - (b : Int)) = ((a - b : Nat) : Int) := by
  have h' : a ≤ 140737488351232 := h
  rw [wrap_id (by omega) (by omega)]; omega
theorem F65_eq (k : Nat) (s t : List UInt8) (h : s.length ≤ big) : F65.go k (arr s) (arr t) = some ((endsL s t, ()), (), ()) := by
  unfold F65.go endsL
  rw [arr_size, arr_size]
  by_cases hl : t.length ≤ s.length
  · rw [decide_eq_true (show ((s.length : Int) ≥ (t.length : Int)) by omega), wsubN _ _ h hl, Int.toNat_natCast, decide_eq_true hl]
    rw [dec0, leD (Nat.sub_le _ _)]
    simp only [cond_true, Bool.true_and]
    rw [show s.length = (arr s).size from rfl, arr_extract_size, tl_beq]
  · rw [decide_eq_false (show ¬ ((s.length : Int) ≥ (t.length : Int)) by omega), decide_eq_false hl]; rfl
theorem F39_eq (k : Nat) (s t : List UInt8) (h : s.length ≤ big) : F39.go k (arr s) (arr t) = some ((arr (if endsL s t then s.take (s.length - t.length) else s), ()), (), ()) := by
  have e : F54.go k (arr s) (arr t) = some ((arr (if endsL s t then s.take (s.length - t.length) else s), ()), (), ()) := by
    unfold F54.go
    rw [F65_eq k s t h]
    show (bif endsL s t then _ else _) = _
    cases he : endsL s t
    · rfl
    · have hl : t.length ≤ s.length := by
        unfold endsL at he
        rw [Bool.and_eq_true] at he
        exact of_decide_eq_true he.1
      rw [arr_size, arr_size, wsubN _ _ h hl, Int.toNat_natCast]
      rw [dec0, leD (Nat.sub_le _ _), ext0]; rfl
  unfold F39.go
  rw [e]; rfl
def baseL (l suf : List UInt8) : List UInt8 :=
  if l.isEmpty then [46] else if (rtrim l).isEmpty then [47] else
    let s := (rtrim l).drop (lastSl (rtrim l))
    if s == suf then s else if endsL s suf then s.take (s.length - suf.length) else s
theorem F23_eq (k : Nat) (l suf : List UInt8) (h : l.length ≤ big) (hk : l.length < k) : F23.go k (arr l) (arr suf) = some ((arr (baseL l suf), ()), (), ()) := by
  have hr := rtrim_length l
  have h' : l.length ≤ 140737488351232 := h
  have hrb : (rtrim l).length ≤ big := by show _ ≤ 140737488351232; omega
  have hls := lastSl_le (rtrim l)
  unfold F23.go baseL
  rw [F36_eq k l h hk]
  show (bif kindOf l == 0 then _ else bif kindOf l == 1 then _ else _) = _
  unfold kindOf
  cases l.isEmpty
  · cases hre : (rtrim l).isEmpty
    · show Option.bind (F37.go k (arr l) (arr [47])) _ = _
      rw [F37_eq k l h hk]
      show Option.bind (F38.go k (arr (rtrim l)) 47) _ = _
      rw [F38_eq k _ hrb (by omega)]
      have e1 : IntKind.i64.wrap ((((lastSl (rtrim l) : Nat) : Int) - 1) + 1) = ((lastSl (rtrim l) : Nat) : Int) := by rw [wrap_id (by omega) (by omega)]; omega
      simp only [Option.bind_some]
      rw [e1, Int.toNat_natCast, arr_extract_size, arr_size]
      rw [dec0, leD (lastSl_le _)]
      rw [tl_beq, F39_eq k _ _ (by rw [List.length_drop]; show _ ≤ 140737488351232; omega)]
      simp only [cond_true, Bool.and_true, Bool.false_eq_true, if_false]
      cases ((rtrim l).drop (lastSl (rtrim l)) == suf) <;> rfl
    · rfl
  · rfl
theorem F24_eq (k : Nat) (l suf : List UInt8) (h : l.length ≤ big) (hk : l.length < k) : F24.go k (arr l) (arr suf) = some ((arr (baseL l suf), ()), (), ()) := by
  have hr := rtrim_length l
  have h' : l.length ≤ 140737488351232 := h
  have hrb : (rtrim l).length ≤ big := by show _ ≤ 140737488351232; omega
  have hls := lastSl_le (rtrim l)
  unfold F24.go baseL
  have e1 : ((arr l).toList == (⟨⟨[]⟩⟩ : ByteArray).toList) = l.isEmpty := (tl_beq l []).trans (nil_beq l)
  rw [e1]
  cases l.isEmpty
  · simp only [cond_false, Bool.false_eq_true, if_false]
    rw [F40_eq k l h hk]
    simp only [Option.bind_some]
    have e2 : ((arr (rtrim l)).toList == (⟨⟨[]⟩⟩ : ByteArray).toList) = (rtrim l).isEmpty := (tl_beq _ []).trans (nil_beq _)
    rw [e2]
    cases hre : (rtrim l).isEmpty
    · simp only [cond_false, Bool.false_eq_true, if_false]
      rw [F41_eq k _ hrb (by omega)]
      simp only [Option.bind_some]
      rw [Int.toNat_natCast, arr_extract_size, arr_size]
      rw [dec0, leD (lastSl_le _)]
      simp only [cond_true, Bool.and_true]
      generalize hs : (rtrim l).drop (lastSl (rtrim l)) = s
      have hsl : s.length ≤ big := by rw [← hs, List.length_drop]; show _ ≤ 140737488351232; omega
      rw [arr_size, arr_size]
      by_cases hl : suf.length < s.length
      · rw [decide_eq_true (show ((suf.length : Int) < (s.length : Int)) by omega), wsubN _ _ hsl (by omega), Int.toNat_natCast]
        rw [dec0, leD (Nat.sub_le _ _)]
        simp only [cond_true, Bool.and_true]
        rw [show s.length = (arr s).size from rfl, arr_extract_size, ext0, tl_beq, arr_size]
        have hne : (s == suf) = false := by
          cases hh : (s == suf) with
          | false => rfl
          | true => have := eq_of_beq hh; subst this; omega
        have hen : endsL s suf = (s.drop (s.length - suf.length) == suf) := by
          unfold endsL; rw [decide_eq_true (by omega)]; rfl
        rw [hne, hen]
        cases (s.drop (s.length - suf.length) == suf) <;> rfl
      · rw [decide_eq_false (show ¬ ((suf.length : Int) < (s.length : Int)) by omega)]
        simp only [cond_false]
        by_cases hh : (s == suf) = true
        · rw [if_pos hh]
        · rw [if_neg hh]
          have hen : endsL s suf = false := by
            unfold endsL
            by_cases hle : suf.length ≤ s.length
            · have : s.length - suf.length = 0 := by omega
              rw [this, List.drop_zero, Bool.eq_false_iff.2 hh]; simp
            · rw [decide_eq_false hle]; rfl
          rw [hen]; rfl
    · rfl
  · rfl
def dirL (l : List UInt8) : List UInt8 :=
  if l.isEmpty then [46] else if (rtrim l).isEmpty then [47] else
    if lastSl (rtrim l) = 0 then [46] else
      let s := rtrim ((rtrim l).take (lastSl (rtrim l) - 1))
      if s.isEmpty then [47] else s
end Go.Proofs.Tryd.S

namespace Go.Proofs.Tryd.S
open Go Go.Ev
theorem take_last : ∀ (n : Nat) (l : List UInt8), l.length = n → lastSl l ≠ 0 → l.take (lastSl l) = l.take (lastSl l - 1) ++ [47]
  | 0, l, hl, h => by
    have : l = [] := List.length_eq_zero_iff.1 hl
    subst this; exact absurd rfl h
  | n + 1, l, hl, h => by
    rcases snoc_cases l with rfl | ⟨m, c, rfl⟩
    · exact absurd rfl h
    · rw [lastSl_snoc] at h ⊢
      by_cases hc : (c == 47) = true
      · rw [if_pos hc]
        have : c = 47 := eq_of_beq hc
        subst this
        have e1 : (m ++ [47]).take (m.length + 1) = m ++ [47] := by rw [List.take_of_length_le (by simp)]
        have e2 : (m ++ [(47 : UInt8)]).take (m.length + 1 - 1) = m := by simp
        rw [e1, e2]
      · rw [if_neg hc] at h ⊢
        have ih := take_last n m (by simpa using hl) h
        have hle := lastSl_le m
        rw [List.take_append_of_le_length hle, List.take_append_of_le_length (by omega)]
        exact ih
theorem F25_31 (k : Nat) (l : List UInt8) (h : l.length ≤ big) (hk : l.length < k) (hz : lastSl l ≠ 0) :
    F25.go31 k (((lastSl l : Nat) : Int) - 1) (arr l) = some ((arr (if (rtrim (l.take (lastSl l - 1))).isEmpty then [47] else rtrim (l.take (lastSl l - 1))), ()), (), ()) := by
  have hle := lastSl_le l
  have h' : l.length ≤ 140737488351232 := h
  unfold F25.go31
  have e : ((lastSl l : Nat) : Int) - 1 = ((lastSl l - 1 : Nat) : Int) := by omega
  rw [e, Int.toNat_natCast, dec0, arr_size, leD (by omega), ext0]
  simp only [cond_true, Bool.and_true]
  show Option.bind (F37.go k (arr (l.take (lastSl l - 1))) (arr [47])) _ = _
  rw [F37_eq k _ (by rw [List.length_take]; show _ ≤ 140737488351232; omega) (by rw [List.length_take]; omega)]
  simp only [Option.bind_some]
  show (bif ((arr (rtrim (l.take (lastSl l - 1)))).toList == (arr []).toList) then _ else _) = _
  rw [tl_beq, nil_beq]
  cases (rtrim (l.take (lastSl l - 1))).isEmpty <;> rfl
theorem F25_tail (k : Nat) (l : List UInt8) (h : l.length ≤ big) (hk : l.length < k) (hre : (rtrim l).isEmpty = false) (hle : l.isEmpty = false) :
    (Option.bind (F37.go k (arr l) (arr [47])) fun y3 => Option.bind (F38.go k y3.1.1 47) fun y4 => bif decide (y4.1.1 < 0) then some ((arr [46], ()), (), ()) else Option.bind (F25.go31 k y4.1.1 y3.1.1) fun y5 => some ((y5.1.1, ()), (), ())) = some ((arr (dirL l), ()), (), ()) := by
  have hr := rtrim_length l
  have h' : l.length ≤ 140737488351232 := h
  have hrb : (rtrim l).length ≤ big := by show _ ≤ 140737488351232; omega
  rw [F37_eq k l h hk]
  simp only [Option.bind_some]
  rw [F38_eq k _ hrb (by omega)]
  simp only [Option.bind_some]
  unfold dirL
  rw [hle, hre]
  simp only [Bool.false_eq_true, if_false]
  by_cases hz : lastSl (rtrim l) = 0
  · rw [if_pos hz, hz]; rfl
  · rw [if_neg hz, decide_eq_false (by omega), F25_31 k _ hrb (by omega) hz]; rfl
theorem F25_eq (k : Nat) (l : List UInt8) (h : l.length ≤ big) (hk : l.length < k) : F25.go k (arr l) = some ((arr (dirL l), ()), (), ()) := by
  unfold F25.go
  rw [F36_eq k l h hk]
  simp only [Option.bind_some]
  unfold kindOf
  cases hle : l.isEmpty
  · cases hre : (rtrim l).isEmpty
    · exact F25_tail k l h hk hre hle
    · unfold dirL
      rw [hle, hre]; rfl
  · have : l = [] := List.isEmpty_iff.1 hle
    subst this
    simp only [if_true]
    show (Option.bind (F37.go k (arr []) (arr [47])) fun y3 => Option.bind (F38.go k y3.1.1 47) fun y4 => bif decide (y4.1.1 < 0) then some ((arr [46], ()), (), ()) else Option.bind (F25.go31 k y4.1.1 y3.1.1) fun y5 => some ((y5.1.1, ()), (), ())) = _
    rw [F37_eq k [] h hk]
    simp only [Option.bind_some]
    rw [rtrim_nil, F38_eq k [] h hk]; rfl
theorem F26_eq (k : Nat) (l : List UInt8) (h : l.length ≤ big) (hk : l.length < k) : F26.go k (arr l) = some ((arr (dirL l), ()), (), ()) := by
  have hr := rtrim_length l
  have h' : l.length ≤ 140737488351232 := h
  have hrb : (rtrim l).length ≤ big := by show _ ≤ 140737488351232; omega
  have hls := lastSl_le (rtrim l)
  unfold F26.go dirL
  have e1 : ((arr l).toList == (⟨⟨[]⟩⟩ : ByteArray).toList) = l.isEmpty := (tl_beq l []).trans (nil_beq l)
  rw [e1]
  cases l.isEmpty
  · simp only [cond_false, Bool.false_eq_true, if_false]
    rw [F40_eq k l h hk]
    simp only [Option.bind_some]
    have e2 : ((arr (rtrim l)).toList == (⟨⟨[]⟩⟩ : ByteArray).toList) = (rtrim l).isEmpty := (tl_beq _ []).trans (nil_beq _)
    rw [e2]
    cases hre : (rtrim l).isEmpty
    · simp only [cond_false, Bool.false_eq_true, if_false]
      rw [F41_eq k _ hrb (by omega)]
      simp only [Option.bind_some]
      by_cases hz : lastSl (rtrim l) = 0
      · rw [if_pos hz, hz]; rfl
      · rw [if_neg hz]
        have e3 : ((((lastSl (rtrim l) : Nat) : Int)) == 0) = false := by simp; exact hz
        rw [e3]
        simp only [cond_false]
        have e4 : F26.go127 k ((lastSl (rtrim l) : Nat) : Int) (arr (rtrim l)) = some ((arr (if (rtrim ((rtrim l).take (lastSl (rtrim l) - 1))).isEmpty then [47] else rtrim ((rtrim l).take (lastSl (rtrim l) - 1))), ()), (), ()) := by
          unfold F26.go127
          rw [Int.toNat_natCast, dec0, arr_size, leD hls, ext0]
          simp only [cond_true, Bool.and_true]
          rw [F40_eq k _ (by rw [List.length_take]; show _ ≤ 140737488351232; omega) (by rw [List.length_take]; omega), take_last _ _ rfl hz, rtrim_snoc, if_pos (by rfl)]
          simp only [Option.bind_some]
          show (bif ((arr (rtrim ((rtrim l).take (lastSl (rtrim l) - 1)))).toList == (arr []).toList) then _ else _) = _
          rw [tl_beq, nil_beq]
          cases (rtrim ((rtrim l).take (lastSl (rtrim l) - 1))).isEmpty <;> rfl
        rw [e4]; rfl
    · rfl
  · rfl
set_option maxRecDepth 1000000 in
theorem livesK (k : Nat) : F14.go (k + 300) = some (Sum.inl ((true, ()), (), ())) := by kernel_rfl
theorem lives (k : Nat) (hk : 300 ≤ k) : F14.go k = some (Sum.inl ((true, ()), (), ())) := by
  obtain ⟨k, rfl⟩ : ∃ k', k = k' + 300 := ⟨k - 300, by omega⟩
  exact livesK k
/-- Base and Dir are basename and dirname -/
theorem pathEnds (k : Nat) (a b : List UInt8) (h : a.length ≤ big) (hk : a.length < k) (hk2 : 300 ≤ k) : F6.go k (arr a) (arr b) = some (Sum.inl ((true, ()), (), ())) := by
  unfold F6.go
  rw [F23_eq k a b h hk]
  simp only [Option.bind_some]
  rw [F24_eq k a b h hk]
  simp only [Option.bind_some]
  rw [beq_self_eq_true, F25_eq k a h hk]
  simp only [Option.bind_some, cond_true]
  rw [F26_eq k a h hk]
  simp only [Option.bind_some]
  rw [beq_self_eq_true, lives k hk2]; rfl
end Go.Proofs.Tryd.S

namespace Go.Proofs.Tryd.S
open Go Go.Ev
abbrev lim : Nat := 4294967296
theorem guard16 (L : List ByteArray) (h : L.length ≤ lim) : (Nat.ble (L.length * 16) 140737488355328 && Nat.ble L.length 9223372036854775807) = true := by
  have h' : L.length ≤ 4294967296 := h
  rw [Bool.and_eq_true]
  exact ⟨Nat.ble_eq_true_of_le (by omega), Nat.ble_eq_true_of_le (by omega)⟩
theorem limBig {n : Nat} (h : n ≤ lim) : n ≤ big := Nat.le_trans h (by decide)
/-! the names -/
def lastC : List UInt8 → List UInt8 → List UInt8
  | cur, [] => cur
  | cur, c :: t => if c == 47 then lastC [] t else lastC (cur ++ [c]) t
def doneN : List UInt8 → List UInt8 → List (List UInt8)
  | cur, [] => []
  | cur, c :: t => if c == 47 then (if cur.isEmpty then doneN [] t else cur :: doneN [] t) else doneN (cur ++ [c]) t
def endN (cur : List UInt8) : List (List UInt8) := if cur.isEmpty then [] else [cur]
def splitN (cur t : List UInt8) : List (List UInt8) := doneN cur t ++ endN (lastC cur t)
theorem splitN_nil (cur : List UInt8) : splitN cur [] = endN cur := rfl
theorem doneN_cons (cur t : List UInt8) (c : UInt8) : doneN cur (c :: t) = if c == 47 then (if cur.isEmpty then doneN [] t else cur :: doneN [] t) else doneN (cur ++ [c]) t := rfl
theorem lastC_cons (cur t : List UInt8) (c : UInt8) : lastC cur (c :: t) = if c == 47 then lastC [] t else lastC (cur ++ [c]) t := rfl
theorem splitN_cons (cur t : List UInt8) (c : UInt8) : splitN cur (c :: t) = if c == 47 then endN cur ++ splitN [] t else splitN (cur ++ [c]) t := by
  unfold splitN
  rw [doneN_cons, lastC_cons]
  by_cases hc : (c == 47) = true
  · rw [if_pos hc, if_pos hc, if_pos hc]
    unfold endN
    cases hcu : cur.isEmpty
    · rfl
    · rfl
  · rw [if_neg hc, if_neg hc, if_neg hc]
/-- what the names weigh -/
def tot : List (List UInt8) → Nat
  | [] => 0
  | a :: r => a.length + 1 + tot r
theorem tot_append : ∀ a b : List (List UInt8), tot (a ++ b) = tot a + tot b
  | [], b => by simp [tot]
  | x :: a, b => by show x.length + 1 + tot (a ++ b) = x.length + 1 + tot a + tot b; rw [tot_append a b]; omega
theorem tot_len : ∀ a : List (List UInt8), a.length ≤ tot a
  | [] => Nat.le_refl _
  | x :: a => by have := tot_len a; show a.length + 1 ≤ x.length + 1 + tot a; omega
theorem tot_endN (cur : List UInt8) : tot (endN cur) ≤ cur.length + 1 := by
  unfold endN
  cases cur with
  | nil => exact Nat.zero_le _
  | cons a r => exact Nat.le_refl _
theorem tot_splitN : ∀ t cur : List UInt8, tot (splitN cur t) ≤ cur.length + t.length + 1
  | [], cur => by rw [splitN_nil]; exact Nat.le_trans (tot_endN cur) (by simp)
  | c :: t, cur => by
    rw [splitN_cons]
    by_cases hc : (c == 47) = true
    · rw [if_pos hc, tot_append]
      have h1 := tot_endN cur
      have h2 := tot_splitN t []
      simp only [List.length_nil, List.length_cons] at h2 ⊢
      omega
    · rw [if_neg hc]
      have h2 := tot_splitN t (cur ++ [c])
      simp only [List.length_append, List.length_cons, List.length_nil] at h2 ⊢
      omega
theorem F29_step (q : Nat) (m t cur : List UInt8) (acc : List (List UInt8)) (c : UInt8) (hm : (m ++ c :: t).length ≤ lim) (ha : acc.length + 1 ≤ lim) (hc' : cur.length + 1 ≤ lim) :
    F29.s122 q (((m.length : Int), arr (m ++ c :: t), arr cur, (), ()), (acc.map arr, ()), ()) =
      some (.inl ((((m ++ [c]).length : Int), arr (m ++ c :: t), arr (if c == 47 then [] else cur ++ [c]), (), ()), ((if c == 47 then acc ++ endN cur else acc).map arr, ()), ())) := by
  have hm' : (m ++ c :: t).length ≤ 4294967296 := hm
  have hcc : cur.length + 1 ≤ 4294967296 := hc'
  have hsz : (m ++ c :: t).length = m.length + 1 + t.length := by simp; omega
  have hg : (m ++ c :: t).getD m.length 0 = c := by simp
  show F29.go122 q (m.length : Int) (arr (m ++ c :: t)) (arr cur) (acc.map arr) = _
  unfold F29.go122
  have hw : IntKind.i64.wrap ((m.length : Int) + 1) = ((m.length + 1 : Nat) : Int) := wadd1 _ (by show _ ≤ 140737488351232; omega)
  have hex : (arr (m ++ c :: t)).extract m.length (m.length + 1) = arr [c] := by rw [arr_extract]; simp
  have hl1 : (m ++ [c]).length = m.length + 1 := by simp
  rw [arr_size, hsz, hw, dec0, dec0, ltD (by omega), leD (show m.length + 1 ≤ m.length + 1 + t.length by omega), leD (show m.length ≤ m.length + 1 by omega), Int.toNat_natCast, Int.toNat_natCast, arr_get, hg, hex, hl1]
  simp only [bne, beq47]
  by_cases hc : (c == 47) = true
  · rw [hc]
    simp only [cond_true, cond_false, Bool.and_true, Bool.not_true, if_true]
    have e2 : ((arr cur).toList == (⟨⟨[]⟩⟩ : ByteArray).toList) = cur.isEmpty := (tl_beq cur []).trans (nil_beq cur)
    rw [e2]
    unfold endN
    cases hce : cur.isEmpty
    · rw [guard16 (acc.map arr ++ [arr cur]) (by rw [List.length_append, List.length_map]; exact ha), show acc.map arr ++ [arr cur] = (acc ++ [cur]).map arr by simp]
      rfl
    · show _ = some (Sum.inl (_, ((acc ++ []).map arr, ()), ()))
      rw [List.append_nil]; rfl
  · rw [Bool.not_eq_true] at hc
    rw [hc]
    rw [decide_eq_true (show (arr cur).size + (arr [c]).size ≤ 9223372036854775807 by rw [arr_size, arr_size]; simp only [List.length_cons, List.length_nil]; omega)]
    rfl
theorem F29_loop : ∀ (t m cur : List UInt8) (acc : List (List UInt8)) (k q : Nat), (m ++ t).length ≤ lim → acc.length + cur.length + t.length ≤ lim → t.length < k →
    loopN (F29.s122 q) k (((m.length : Int), arr (m ++ t), arr cur, (), ()), (acc.map arr, ()), ()) = some ((arr (lastC cur t), (), ()), ((acc ++ doneN cur t).map arr, ()), ())
  | [], m, cur, acc, k, q, hm, ha, hk => by
    obtain ⟨k, rfl⟩ : ∃ k', k = k' + 1 := ⟨k - 1, by omega⟩
    refine loopN_inr ?_
    show F29.go122 q (m.length : Int) (arr (m ++ [])) (arr cur) (acc.map arr) = _
    unfold F29.go122
    have e : doneN cur [] = [] := rfl
    rw [arr_size, e, List.append_nil, List.append_nil, ltN (by omega)]
    rfl
  | c :: t, m, cur, acc, k, q, hm, ha, hk => by
    have ha' : acc.length + cur.length + (t.length + 1) ≤ 4294967296 := ha
    obtain ⟨k, rfl⟩ : ∃ k', k = k' + 1 := ⟨k - 1, by omega⟩
    rw [loopN_inl (F29_step q m t cur acc c hm (by show _ ≤ 4294967296; omega) (by show _ ≤ 4294967296; omega))]
    have e : m ++ c :: t = (m ++ [c]) ++ t := by simp
    rw [e] at hm ⊢
    have hk' : t.length < k := by simp only [List.length_cons] at hk; omega
    unfold lastC doneN
    by_cases hc : (c == 47) = true
    · simp only [if_pos hc]
      have hl : (acc ++ endN cur).length + ([] : List UInt8).length + t.length ≤ lim := by
        rw [List.length_append]
        have : (endN cur).length ≤ 1 := by unfold endN; cases cur.isEmpty <;> simp
        show _ ≤ 4294967296
        simp only [List.length_nil]; omega
      rw [F29_loop t (m ++ [c]) [] (acc ++ endN cur) k q hm hl hk']
      have : acc ++ endN cur ++ doneN [] t = acc ++ (if cur.isEmpty then doneN [] t else cur :: doneN [] t) := by
        unfold endN
        cases cur.isEmpty <;> simp
      rw [this]
    · simp only [if_neg hc]
      exact F29_loop t (m ++ [c]) (cur ++ [c]) acc k q hm (by rw [List.length_append]; show _ ≤ 4294967296; simp only [List.length_cons, List.length_nil]; omega) hk'
theorem F29_eq (k : Nat) (s : List UInt8) (h : s.length + 1 ≤ lim) (hk : s.length < k) : F29.go k (arr s) = some (((), ()), ((splitN [] s).map arr, ()), ()) := by
  have h' : s.length + 1 ≤ 4294967296 := h
  show Option.bind (loopN (F29.s122 k) k ((((([] : List UInt8).length : Nat) : Int), arr ([] ++ s), arr [], (), ()), (([] : List (List UInt8)).map arr, ()), ())) _ = _
  rw [F29_loop s [] [] [] k k (by show s.length ≤ 4294967296; omega) (by show 0 + 0 + s.length ≤ 4294967296; omega) hk]
  simp only [Option.bind_some, List.nil_append]
  have e2 : ((arr (lastC [] s)).toList == (⟨⟨[]⟩⟩ : ByteArray).toList) = (lastC [] s).isEmpty := (tl_beq _ []).trans (nil_beq _)
  rw [e2]
  have hl : (splitN [] s).length ≤ lim := by
    have h1 := tot_splitN s []
    have h2 := tot_len (splitN [] s)
    simp only [List.length_nil] at h1
    show _ ≤ 4294967296; omega
  unfold splitN endN at hl ⊢
  cases hce : (lastC [] s).isEmpty
  · rw [hce] at hl
    have e3 : (doneN [] s).map arr ++ [arr (lastC [] s)] = (doneN [] s ++ [lastC [] s]).map arr := by simp
    rw [e3, guard16 _ (by rw [List.length_map]; exact hl)]
    rfl
  · simp
/-- the program's names are the document's -/
theorem goNamesF_eq : ∀ (t m cur : List UInt8), (goNamesF (arr (m ++ cur ++ t)) (t.length + 1) (m ++ cur).length m.length).map (·.2) = (splitN cur t).map arr
  | [], m, cur => by
    rw [splitN_nil]
    show (goNamesF _ (0 + 1) _ _).map _ = _
    rw [goNamesF, if_neg (by rw [arr_size]; simp), List.append_nil]
    have hx : (arr (m ++ cur)).extract m.length (m ++ cur).length = arr cur := by rw [← arr_size (m ++ cur), arr_extract_size]; simp
    unfold endN
    cases cur with
    | nil => rw [if_neg (by simp)]; rfl
    | cons a r =>
      rw [if_pos (by simp)]
      show (_ :: []) = _
      rw [hx]; rfl
  | c :: t, m, cur => by
    rw [splitN_cons]
    show (goNamesF _ ((t.length + 1) + 1) _ _).map _ = _
    have hg : (arr (m ++ cur ++ c :: t)).data.getD (m ++ cur).length 0 = c := by rw [arr_get]; simp
    rw [goNamesF, hg]
    by_cases hc : (c == 47) = true
    · rw [if_pos hc, if_neg (by intro h; exact h.2 (eq_of_beq hc))]
      have e1 : m ++ cur ++ c :: t = (m ++ cur ++ [c]) ++ [] ++ t := by simp
      have ih := goNamesF_eq t (m ++ cur ++ [c]) []
      have e2 : (m ++ cur).length + 1 = (m ++ cur ++ [c] ++ []).length := by simp; omega
      have e3 : (m ++ cur ++ [c] ++ []).length = (m ++ cur ++ [c]).length := by simp
      rw [e3] at ih
      rw [e2, e3, e1]
      have hx : (arr (m ++ cur ++ [c] ++ [] ++ t)).extract m.length (m ++ cur).length = arr cur := by
        rw [arr_extract]; simp
      unfold endN
      cases cur with
      | nil => rw [if_neg (by simp)]; rw [ih]; rfl
      | cons a r =>
        rw [if_pos (by simp)]
        rw [List.map_cons, hx, ih]; rfl
    · rw [if_neg hc, if_pos ⟨by rw [arr_size]; simp, by intro h; subst h; exact hc rfl⟩]
      have e1 : m ++ cur ++ c :: t = m ++ (cur ++ [c]) ++ t := by simp
      have e2 : (m ++ cur).length + 1 = (m ++ (cur ++ [c])).length := by simp; omega
      rw [e1, e2]
      exact goNamesF_eq t m (cur ++ [c])
theorem goNames_eq (s : List UInt8) : (goNames (arr s)).map (·.2) = (splitN [] s).map arr := by
  have := goNamesF_eq s [] []
  exact this
/-! clean -/
def dd : List UInt8 := [46, 46]
def cstep (abs : Bool) (out : List (List UInt8)) (n : List UInt8) : List (List UInt8) :=
  if n == [46] then out else if !(n == dd) then out ++ [n] else
    if decide (0 < out.length) && !(out.getD (out.length - 1) [] == dd) then out.take (out.length - 1) else if abs then out else out ++ [n]
theorem cstep_len (abs : Bool) (out : List (List UInt8)) (n : List UInt8) : (cstep abs out n).length ≤ out.length + 1 := by
  unfold cstep
  split
  · omega
  · split
    · simp
    · split
      · simp; omega
      · split
        · omega
        · simp
theorem tot_take : ∀ (l : List (List UInt8)) (n : Nat), tot (l.take n) ≤ tot l
  | [], n => by simp
  | a :: r, 0 => Nat.zero_le _
  | a :: r, n + 1 => by have := tot_take r n; show a.length + 1 + tot (r.take n) ≤ a.length + 1 + tot r; omega
theorem cstep_tot (abs : Bool) (out : List (List UInt8)) (n : List UInt8) : tot (cstep abs out n) ≤ tot out + (n.length + 1) := by
  have ht : tot (out ++ [n]) = tot out + (n.length + 1) := by rw [tot_append]; rfl
  unfold cstep
  split
  · omega
  · split
    · omega
    · split
      · have := tot_take out (out.length - 1); omega
      · split <;> omega
theorem fold_tot (abs : Bool) : ∀ (l out : List (List UInt8)), tot (l.foldl (cstep abs) out) ≤ tot out + tot l
  | [], out => Nat.le_refl _
  | a :: r, out => by
    have h1 := fold_tot abs r (cstep abs out a)
    have h2 := cstep_tot abs out a
    show tot (r.foldl (cstep abs) (cstep abs out a)) ≤ tot out + (a.length + 1 + tot r)
    omega
theorem map_getD (m : List (List UInt8)) (i : Nat) : (m.map arr).getD i ⟨⟨[]⟩⟩ = arr (m.getD i []) := by
  rw [List.getD_eq_getElem?_getD, List.getD_eq_getElem?_getD, List.getElem?_map]
  cases m[i]? <;> rfl
theorem wsubL (n : Nat) (h : n ≤ lim) (h0 : 0 < n) : IntKind.i64.wrap ((n : Int) - 1) = ((n - 1 : Nat) : Int) := by
  have h' : n ≤ 4294967296 := h
  rw [wrap_id (by omega) (by omega)]; omega
theorem F34_step (k : Nat) (i : Int) (abs : Bool) (n : List UInt8) (out : List (List UInt8)) (h : out.length + 1 ≤ lim) :
    F34.go122 k i (arr n) abs (out.map arr) = some ((), (((), ()), (abs, ()), (cstep abs out n).map arr, ()), ()) := by
  have h' : out.length + 1 ≤ 4294967296 := h
  have e1 : ((arr n).toList == (⟨⟨[46]⟩⟩ : ByteArray).toList) = (n == [46]) := tl_beq n [46]
  have e2 : ((arr n).toList == (⟨⟨[46, 46]⟩⟩ : ByteArray).toList) = (n == dd) := tl_beq n [46, 46]
  have e3 : out.map arr ++ [arr n] = (out ++ [n]).map arr := by simp
  have hg : (Nat.ble ((out.map arr ++ [arr n]).length * 16) 140737488355328 && Nat.ble (out.map arr ++ [arr n]).length 9223372036854775807) = true := guard16 _ (by simp; exact h)
  unfold F34.go122 cstep
  rw [e1, e2, hg, e3]
  cases n == [46]
  · cases hdd : n == dd
    · rfl
    · simp only [cond_false, cond_true, Bool.not_true, Bool.false_eq_true, if_false, List.length_map]
      by_cases hz : 0 < out.length
      · rw [decide_eq_true (show ((out.length : Int) > 0) by omega), wsubL _ (by show _ ≤ 4294967296; omega) hz, Int.toNat_natCast, dec0, ltD (by omega), leD (by omega), map_getD, decide_eq_true hz]
        have e4 : ((arr (out.getD (out.length - 1) [])).toList == (⟨⟨[46, 46]⟩⟩ : ByteArray).toList) = (out.getD (out.length - 1) [] == dd) := tl_beq _ [46, 46]
        rw [e4]
        cases out.getD (out.length - 1) [] == dd
        · simp only [cond_true, Bool.and_true, Bool.not_false, if_true, Nat.sub_zero, List.map_take]
        · cases abs <;> rfl
      · rw [decide_eq_false (show ¬ ((out.length : Int) > 0) by omega), decide_eq_false hz]
        cases abs <;> rfl
  · rfl
theorem F34_fold (k : Nat) (abs : Bool) : ∀ (l : List (List UInt8)) (xs : List (Int × ByteArray)) (out : List (List UInt8)), xs.map (·.2) = l.map arr → out.length + l.length ≤ lim →
    rfold (F34.s122 k) xs (((), (), ()), (((), ()), (abs, ()), out.map arr, ()), ()) = some (.inl (((), (), ()), (((), ()), (abs, ()), (l.foldl (cstep abs) out).map arr, ()), ()))
  | [], xs, out, hx, h => by
    have : xs = [] := by cases xs with | nil => rfl | cons a r => cases hx
    subst this; rfl
  | a :: r, xs, out, hx, h => by
    have h' : out.length + (r.length + 1) ≤ 4294967296 := h
    cases xs with
    | nil => cases hx
    | cons e xs =>
      rw [List.map_cons, List.map_cons, List.cons.injEq] at hx
      have hs : F34.s122 k (((), (), ()), (((), ()), (abs, ()), out.map arr, ()), ()) e = some (.inl (((), (), ()), (((), ()), (abs, ()), (cstep abs out a).map arr, ()), ())) := by
        show F34.gs122 k abs (out.map arr) e = _
        unfold F34.gs122
        rw [hx.1, F34_step k e.1 abs a out (by show _ ≤ 4294967296; omega)]; rfl
      rw [rfold, hs]
      exact F34_fold k abs r xs (cstep abs out a) hx.2 (by have := cstep_len abs out a; show _ ≤ 4294967296; omega)
def absL : List UInt8 → Bool
  | [] => false
  | c :: _ => c == 47
def cleanL (s : List UInt8) : List (List UInt8) := (splitN [] s).foldl (cstep (absL s)) []
theorem F47_eq (k : Nat) (s : List UInt8) : F47.go k (arr s) (arr [47]) = some ((absL s, ()), (), ()) := by
  have e : F58.go k (arr s) (arr [47]) = some ((absL s, ()), (), ()) := by
    unfold F58.go
    cases s with
    | nil => rfl
    | cons c t =>
      have h1 : decide (((arr (c :: t)).size : Int) ≥ ((arr [47]).size : Int)) = true := decide_eq_true (by show ((t.length + 1 : Nat) : Int) ≥ ((1 : Nat) : Int); omega)
      rw [h1, dec0, Int.toNat_natCast, ext0, tl_beq]
      show some ((([c] == [47]), ()), (), ()) = some ((c == 47, ()), (), ())
      have : ([c] == [47]) = (c == 47) := by simp
      rw [this]
  unfold F47.go
  rw [e]; rfl
theorem F30_eq (k : Nat) (s : List UInt8) : F30.go k (arr s) = some ((absL s, ()), (), ()) := by
  unfold F30.go
  cases s with
  | nil => rfl
  | cons c t =>
    have h1 : decide (((arr (c :: t)).size : Int) > 0) = true := decide_eq_true (by show ((t.length + 1 : Nat) : Int) > 0; omega)
    rw [h1, arr_get]
    show some (((c.toNat : Int) == 47, ()), (), ()) = _
    rw [beq47]; rfl
theorem splitN_lim (s : List UInt8) (h : s.length + 1 ≤ lim) : (splitN [] s).length ≤ lim := by
  have h' : s.length + 1 ≤ 4294967296 := h
  have h1 := tot_splitN s []
  have h2 := tot_len (splitN [] s)
  simp only [List.length_nil] at h1
  show _ ≤ 4294967296; omega
theorem F34_eq (k : Nat) (s : List UInt8) (h : s.length + 1 ≤ lim) : F34.go k (arr s) = some (((absL s, (), ()), ()), ((cleanL s).map arr, ()), ()) := by
  have h' : s.length + 1 ≤ 4294967296 := h
  unfold F34.go
  show Option.bind (F47.go k (arr s) (arr [47])) _ = _
  rw [F47_eq]
  simp only [Option.bind_some]
  show (bif Nat.ble (arr s).size 4611686018427387904 then Option.bind (rfold (F34.s122 k) (goNames (arr s)) (((), (), ()), (((), ()), (absL s, ()), ([] : List (List UInt8)).map arr, ()), ())) _ else none) = _
  rw [Nat.ble_eq_true_of_le (by rw [arr_size]; omega), F34_fold k (absL s) (splitN [] s) (goNames (arr s)) [] (goNames_eq s) (by simpa using splitN_lim s h)]
  rfl
theorem cleanL_tot (s : List UInt8) : tot (cleanL s) ≤ s.length + 1 := by
  have h1 := fold_tot (absL s) (splitN [] s) []
  have h2 := tot_splitN s []
  simp only [List.length_nil, tot] at h1 h2
  unfold cleanL; omega
end Go.Proofs.Tryd.S

namespace Go.Proofs.Tryd.S
open Go Go.Ev
/-- a window of a row reads as these texts -/
structure Win (row : List ByteArray) (p : Nat × Nat) (m : List (List UInt8)) : Prop where
  le : p.1 + p.2 ≤ row.length
  eq : (row.drop p.1).take p.2 = m.map arr
theorem Win.len {row : List ByteArray} {p : Nat × Nat} {m : List (List UInt8)} (h : Win row p m) : p.2 = m.length := by
  have := congrArg List.length h.eq
  rw [List.length_take, List.length_drop, List.length_map] at this
  have := h.le
  omega
theorem Win.get {row : List ByteArray} {p : Nat × Nat} {m : List (List UInt8)} (h : Win row p m) {i : Nat} (hi : i < p.2) : row.getD (p.1 + i) ⟨⟨[]⟩⟩ = arr (m.getD i []) := by
  rw [← map_getD, ← h.eq, List.getD_eq_getElem?_getD, List.getD_eq_getElem?_getD, List.getElem?_take, if_pos hi, List.getElem?_drop]
theorem Win.shrink {row : List ByteArray} {o n : Nat} {m : List (List UInt8)} (h : Win row (o, n) m) : Win row (o + 0, m.length - 1 - 0) (m.take (m.length - 1)) := by
  have hl := h.len
  have hle := h.le
  simp only at hl hle
  refine ⟨by simp only; omega, ?_⟩
  have e := congrArg (List.take (m.length - 1)) h.eq
  rw [List.take_take] at e
  simp only [Nat.add_zero, Nat.sub_zero]
  rw [show min (m.length - 1) n = m.length - 1 by omega] at e
  rw [e, List.map_take]
theorem Win.new (m : List (List UInt8)) : Win (m.map arr) (0, m.length) m :=
  ⟨by simp, by simp only [List.drop_zero]; rw [List.take_of_length_le (by simp)]⟩
theorem F35_step (q : Nat) (pre post : List (List UInt8)) (x : List UInt8) (abs : Bool) (o n : Nat) (row : List ByteArray) (out : List (List UInt8)) (hw : Win row (o, n) out)
    (hn : (pre ++ x :: post).length ≤ lim) (ho : out.length + 1 ≤ lim) :
    ∃ row' p', F35.s58 q (((pre.length : Int), (o, n), abs, (), ((pre ++ x :: post).length : Int), ()), ((pre ++ x :: post).map arr, row, ()), ()) =
      some (.inl ((((pre ++ [x]).length : Int), p', abs, (), ((pre ++ x :: post).length : Int), ()), ((pre ++ x :: post).map arr, row', ()), ())) ∧ Win row' p' (cstep abs out x) := by
  have hn' : (pre ++ x :: post).length ≤ 4294967296 := hn
  have ho' : out.length + 1 ≤ 4294967296 := ho
  have hlen := hw.len
  simp only at hlen
  subst hlen
  have hsz : (pre ++ x :: post).length = pre.length + 1 + post.length := by simp; omega
  have hl1 : (pre ++ [x]).length = pre.length + 1 := by simp
  have hg : ((pre ++ x :: post).map arr).getD pre.length ⟨⟨[]⟩⟩ = arr x := by rw [map_getD]; simp
  have hwn : IntKind.i64.wrap ((pre.length : Int) + 1) = ((pre.length + 1 : Nat) : Int) := wadd1 _ (by show _ ≤ 140737488351232; omega)
  have e1 : ((arr x).toList == (⟨⟨[46]⟩⟩ : ByteArray).toList) = (x == [46]) := tl_beq x [46]
  have e2 : ((arr x).toList == (⟨⟨[46, 46]⟩⟩ : ByteArray).toList) = (x == dd) := tl_beq x [46, 46]
  have hap : List.take out.length (List.drop o row) ++ [arr x] = (out ++ [x]).map arr := by rw [hw.eq]; simp
  have hguard := guard16 (List.take out.length (List.drop o row) ++ [arr x]) (by rw [hap]; simp; exact ho)
  have hnew : Win ((out ++ [x]).map arr) (0, (out ++ [x]).length) (out ++ [x]) := Win.new _
  have hnl : ((out ++ [x]).map arr).length = (out ++ [x]).length := by simp
  show ∃ row' p', F35.go58 q (pre.length : Int) (o, out.length) abs ((pre ++ x :: post).length : Int) ((pre ++ x :: post).map arr) row = _ ∧ _
  unfold F35.go58 F35.go119605
  rw [List.length_map, hsz, ltD (by omega), dec0, Int.toNat_natCast, hg, e1, e2, hwn, hl1]
  simp only [cond_true, Bool.and_true]
  unfold cstep
  cases hx1 : x == [46]
  · cases hx2 : x == dd
    · rw [hguard, hap, hnl]
      exact ⟨_, _, rfl, hnew⟩
    · simp only [cond_false, cond_true, Bool.not_true, Bool.false_eq_true, if_false]
      by_cases hz : 0 < out.length
      · rw [decide_eq_true (show ((out.length : Int) > 0) by omega), wsubL _ (by show _ ≤ 4294967296; omega) hz, Int.toNat_natCast, dec0, ltD (by omega), leD (by omega), hw.get (by simp only; omega), decide_eq_true hz]
        have e4 : ((arr (out.getD (out.length - 1) [])).toList == (⟨⟨[46, 46]⟩⟩ : ByteArray).toList) = (out.getD (out.length - 1) [] == dd) := tl_beq _ [46, 46]
        rw [e4]
        cases out.getD (out.length - 1) [] == dd
        · exact ⟨_, _, rfl, hw.shrink⟩
        · cases abs
          · simp only [cond_true, cond_false, Bool.and_true, Bool.not_true, Bool.false_eq_true, if_false, Bool.and_false, Option.bind_some, Sum.elim_inr]
            rw [hguard, hap, hnl, hwn]
            exact ⟨_, _, rfl, hnew⟩
          · simp only [cond_true, cond_false, Bool.and_true, Bool.not_true, Bool.false_eq_true, if_false, Bool.and_false, Option.bind_some, Sum.elim_inl, if_true]
            rw [hwn]
            exact ⟨_, _, rfl, hw⟩
      · rw [decide_eq_false (show ¬ ((out.length : Int) > 0) by omega), decide_eq_false hz]
        cases abs
        · simp only [cond_true, cond_false, Bool.and_true, Bool.not_true, Bool.false_eq_true, if_false, Bool.false_and, Option.bind_some, Sum.elim_inr]
          rw [hguard, hap, hnl, hwn]
          exact ⟨_, _, rfl, hnew⟩
        · simp only [cond_true, cond_false, Bool.and_true, Bool.not_true, Bool.false_eq_true, if_false, Bool.false_and, Option.bind_some, Sum.elim_inl, if_true]
          rw [hwn]
          exact ⟨_, _, rfl, hw⟩
  · exact ⟨_, _, rfl, hw⟩
theorem F35_loop (abs : Bool) : ∀ (post pre : List (List UInt8)) (o n : Nat) (row : List ByteArray) (out : List (List UInt8)) (k q : Nat), Win row (o, n) out → (pre ++ post).length ≤ lim → out.length + post.length ≤ lim → post.length < k →
    ∃ row' p', loopN (F35.s58 q) k (((pre.length : Int), (o, n), abs, (), ((pre ++ post).length : Int), ()), ((pre ++ post).map arr, row, ()), ()) = some ((p', ()), ((pre ++ post).map arr, row', ()), ()) ∧ Win row' p' (post.foldl (cstep abs) out)
  | [], pre, o, n, row, out, k, q, hw, hn, ho, hk => by
    obtain ⟨k, rfl⟩ : ∃ k', k = k' + 1 := ⟨k - 1, by omega⟩
    refine ⟨row, (o, n), loopN_inr ?_, hw⟩
    show F35.go58 q (pre.length : Int) (o, n) abs ((pre ++ []).length : Int) ((pre ++ []).map arr) row = _
    unfold F35.go58
    rw [List.append_nil, ltN (by omega)]; rfl
  | x :: post, pre, o, n, row, out, k, q, hw, hn, ho, hk => by
    have ho' : out.length + (post.length + 1) ≤ 4294967296 := ho
    obtain ⟨k, rfl⟩ : ∃ k', k = k' + 1 := ⟨k - 1, by omega⟩
    obtain ⟨row', p', hs, hw'⟩ := F35_step q pre post x abs o n row out hw hn (by show _ ≤ 4294967296; omega)
    rw [loopN_inl hs]
    have e : pre ++ x :: post = (pre ++ [x]) ++ post := by simp
    rw [e] at hn ⊢
    exact F35_loop abs post (pre ++ [x]) p'.1 p'.2 row' (cstep abs out x) k q hw' hn (by have := cstep_len abs out x; show _ ≤ 4294967296; omega) (by simp only [List.length_cons] at hk; omega)
theorem F35_eq (k : Nat) (abs : Bool) (l : List (List UInt8)) (h : l.length ≤ lim) (hk : l.length < k) :
    ∃ row p, F35.go k abs (l.map arr) = some ((p, ()), (l.map arr, row, ()), ()) ∧ Win row p (l.foldl (cstep abs) []) := by
  obtain ⟨row, p, he, hw⟩ := F35_loop abs l [] 0 0 [] [] k k ⟨by simp, rfl⟩ (by simpa using h) (by simpa using h) hk
  refine ⟨row, p, ?_, hw⟩
  unfold F35.go
  rw [List.length_map]
  show Option.bind (loopN (F35.s58 k) k (((([] : List (List UInt8)).length : Int), (0, 0), abs, (), (([] ++ l).length : Int), ()), (([] ++ l).map arr, [], ()), ())) _ = _
  rw [he]; rfl
/-! joined -/
def joinT : List (List UInt8) → List UInt8
  | [] => []
  | b :: r => 47 :: b ++ joinT r
def joinL : List (List UInt8) → List UInt8
  | [] => []
  | a :: r => a ++ joinT r
theorem joinT_append : ∀ a b : List (List UInt8), joinT (a ++ b) = joinT a ++ joinT b
  | [], b => rfl
  | x :: a, b => by show 47 :: x ++ joinT (a ++ b) = 47 :: x ++ joinT a ++ joinT b; rw [joinT_append a b]; simp
theorem joinL_snoc (m : List (List UInt8)) (x : List UInt8) : joinL (m ++ [x]) = if m.isEmpty then x else joinL m ++ [47] ++ x := by
  cases m with
  | nil => show x ++ [] = x; simp
  | cons a r =>
    show a ++ joinT (r ++ [x]) = a ++ joinT r ++ [47] ++ x
    rw [joinT_append]
    show a ++ (joinT r ++ (47 :: x ++ [])) = _
    simp
theorem joinT_len : ∀ m : List (List UInt8), (joinT m).length = tot m
  | [] => rfl
  | b :: r => by
    have := joinT_len r
    show (47 :: b ++ joinT r).length = b.length + 1 + tot r
    simp; omega
theorem joinL_len (m : List (List UInt8)) : (joinL m).length ≤ tot m := by
  cases m with
  | nil => exact Nat.le_refl _
  | cons a r => show (a ++ joinT r).length ≤ a.length + 1 + tot r; rw [List.length_append, joinT_len]; omega
theorem joinL_len2 (m : List (List UInt8)) : tot m ≤ (joinL m).length + 1 := by
  cases m with
  | nil => exact Nat.zero_le _
  | cons a r => show a.length + 1 + tot r ≤ (a ++ joinT r).length + 1; rw [List.length_append, joinT_len]; omega
theorem F32_1_loop (o n : Nat) (row : List ByteArray) (m : List (List UInt8)) (hw : Win row (o, n) m) (ht : tot m ≤ lim) : ∀ (post pre : List (List UInt8)) (k q : Nat), pre ++ post = m → post.length < k →
    loopN (F32_1.s58 q) k (((pre.length : Int), arr (joinL pre), (o, n), (n : Int), ()), (row, ()), ()) = some ((arr (joinL m), ()), (row, ()), ())
  | [], pre, k, q, hm, hk => by
    have hl := hw.len
    simp only at hl
    rw [List.append_nil] at hm
    subst hm
    obtain ⟨k, rfl⟩ : ∃ k', k = k' + 1 := ⟨k - 1, by omega⟩
    refine loopN_inr ?_
    show F32_1.go58 q (pre.length : Int) (arr (joinL pre)) (o, n) (n : Int) row = _
    unfold F32_1.go58
    rw [ltN (by omega)]; rfl
  | x :: post, pre, k, q, hm, hk => by
    have hl := hw.len
    simp only at hl
    have ht' : tot m ≤ 4294967296 := ht
    have hml : m.length = pre.length + 1 + post.length := by rw [← hm]; simp; omega
    have htl := tot_len m
    have htp : tot pre + (x.length + 1 + tot post) = tot m := by rw [← hm, tot_append]; rfl
    have hjp := joinL_len pre
    obtain ⟨k, rfl⟩ : ∃ k', k = k' + 1 := ⟨k - 1, by omega⟩
    have hs : F32_1.s58 q (((pre.length : Int), arr (joinL pre), (o, n), (n : Int), ()), (row, ()), ()) = some (.inl ((((pre ++ [x]).length : Int), arr (joinL (pre ++ [x])), (o, n), (n : Int), ()), (row, ()), ())) := by
      show F32_1.go58 q (pre.length : Int) (arr (joinL pre)) (o, n) (n : Int) row = _
      unfold F32_1.go58
      have hwn : IntKind.i64.wrap ((pre.length : Int) + 1) = ((pre.length + 1 : Nat) : Int) := wadd1 _ (by show _ ≤ 140737488351232; omega)
      have hg : row.getD (o + pre.length) ⟨⟨[]⟩⟩ = arr x := by
        have := hw.get (i := pre.length) (by simp only; omega)
        rw [this, ← hm]; simp
      have hl1 : (pre ++ [x]).length = pre.length + 1 := by simp
      rw [ltD (by omega), dec0, Int.toNat_natCast, hg, hwn, joinL_snoc, hl1]
      cases pre with
      | nil =>
        have hz : decide ((([] : List (List UInt8)).length : Int) > 0) = false := by decide
        rw [hz]
        simp only [cond_true, cond_false, Bool.and_true, List.isEmpty_nil, if_true]
        rw [decide_eq_true (show (arr (joinL [])).size + (arr x).size ≤ 9223372036854775807 by rw [arr_size, arr_size]; show 0 + x.length ≤ 9223372036854775807; omega)]
        rfl
      | cons a r =>
        have hz : decide ((((a :: r : List (List UInt8)).length : Nat) : Int) > 0) = true := decide_eq_true (by simp)
        rw [hz]
        simp only [cond_true, cond_false, Bool.and_true, List.isEmpty_cons, Bool.false_eq_true, if_false]
        rw [decide_eq_true (show (arr (joinL (a :: r))).size + 1 ≤ 9223372036854775807 by rw [arr_size]; omega)]
        have hsz : (ByteArray.mk ⟨(arr (joinL (a :: r))).data.toList ++ (ByteArray.mk ⟨[47]⟩).data.toList⟩).size = (joinL (a :: r)).length + 1 := by
          show (joinL (a :: r) ++ [47]).length = _; simp
        have hd : decide ((ByteArray.mk ⟨(arr (joinL (a :: r))).data.toList ++ (ByteArray.mk ⟨[47]⟩).data.toList⟩).size + (arr x).size ≤ 9223372036854775807) = true := decide_eq_true (by rw [hsz, arr_size]; omega)
        simp only [cond_true]
        exact (congrArg (fun b => bif b then _ else _) hd).trans rfl
    rw [loopN_inl hs]
    exact F32_1_loop o n row m hw ht post (pre ++ [x]) k q (by rw [← hm]; simp) (by simp only [List.length_cons] at hk; omega)
theorem F32_1_eq (k : Nat) (p : Nat × Nat) (row : List ByteArray) (m : List (List UInt8)) (hw : Win row p m) (ht : tot m ≤ lim) (hk : m.length < k) :
    F32_1.go k p row = some ((arr (joinL m), ()), (row, ()), ()) := by
  show Option.bind (loopN (F32_1.s58 k) k (((([] : List (List UInt8)).length : Int), arr (joinL []), (p.1, p.2), (p.2 : Int), ()), (row, ()), ())) _ = _
  rw [F32_1_loop p.1 p.2 row m hw ht m [] k k rfl hk]; rfl
end Go.Proofs.Tryd.S

namespace Go.Proofs.Tryd.S
open Go Go.Ev
/-! String -/
def strL (abs slash : Bool) (m : List (List UInt8)) : List UInt8 :=
  if m.isEmpty && !abs then [46] else (if abs then [47] else []) ++ joinL m ++ (if slash && !m.isEmpty then [47] else [])
theorem szA (a b : List UInt8) : (ByteArray.mk ⟨(arr a).data.toList ++ (arr b).data.toList⟩).size = a.length + b.length := by
  show (a ++ b).length = _; simp
theorem szI (a : List UInt8) (c : UInt8) : (ByteArray.mk ⟨(arr a).data.toList ++ (ByteArray.mk ⟨[c]⟩).data.toList⟩).size = a.length + 1 := by
  show (a ++ [c]).length = _; simp
theorem szP (a : List UInt8) (c : UInt8) : (ByteArray.mk ⟨(ByteArray.mk ⟨[c]⟩).data.toList ++ (arr a).data.toList⟩).size = 1 + a.length := by
  show ([c] ++ a).length = _; simp; omega
theorem lenZ (m : List (List UInt8)) : (((m.length : Nat) : Int) == 0) = m.isEmpty := by
  cases m with
  | nil => rfl
  | cons a r => show _ = false; simp; omega
theorem lenG (m : List (List UInt8)) : decide (((m.length : Nat) : Int) > 0) = !m.isEmpty := by
  cases m with
  | nil => rfl
  | cons a r => show _ = true; simp
theorem F12_eq (k : Nat) (abs slash : Bool) (p : Nat × Nat) (row : List ByteArray) (m : List (List UInt8)) (hw : Win row p m) (ht : tot m ≤ lim) (hk : m.length < k) :
    F12.go k abs p slash row = some ((arr (strL abs slash m), ()), (row, ()), ()) := by
  have ht' : tot m ≤ 4294967296 := ht
  have hj := joinL_len m
  have hl := hw.len
  unfold F12.go strL
  show Option.bind (F32_1.go k p row) _ = _
  rw [F32_1_eq k p row m hw ht hk]
  simp only [Option.bind_some]
  rw [hl, lenZ, lenG, szP, decide_eq_true (show 1 + (arr (joinL m)).size ≤ 9223372036854775807 by rw [arr_size]; omega), decide_eq_true (show (arr (joinL m)).size + 1 ≤ 9223372036854775807 by rw [arr_size]; omega),
    decide_eq_true (show 1 + (joinL m).length + 1 ≤ 9223372036854775807 by omega)]
  have j1 : joinL m = joinL m ++ [] := by simp
  cases hm : m.isEmpty
  · cases abs <;> cases slash <;> simp [arr]
  · cases abs <;> cases slash <;> simp [arr]
/-! the program's strings.Join -/
theorem u8_back (c : UInt8) : UInt8.ofNat (((c.toNat : Nat) : Int)).toNat = c := by
  rw [Int.toNat_natCast]; exact UInt8.ofNat_toNat
theorem strOf_bytes (l : List UInt8) : strOf (l.map fun c => ((c.toNat : Nat) : Int)) = arr l := by
  unfold strOf arr
  congr 1
  rw [List.map_map]
  have : ((fun n : Int => UInt8.ofNat n.toNat) ∘ fun c : UInt8 => ((c.toNat : Nat) : Int)) = id := by
    funext c; exact u8_back c
  rw [this, List.map_id]
def ints (l : List UInt8) : List Int := l.map fun c => ((c.toNat : Nat) : Int)
theorem ints_append (a b : List UInt8) : ints (a ++ b) = ints a ++ ints b := by unfold ints; simp
theorem bytesOf_arr (l : List UInt8) : bytesOf (arr l) = ints l := rfl
theorem ints_len (l : List UInt8) : (ints l).length = l.length := by unfold ints; simp
theorem strOf_ints (l : List UInt8) : strOf (ints l) = arr l := strOf_bytes l
theorem F45_eq (k : Nat) (a b : List UInt8) (h : a.length + b.length ≤ lim) : F45.go k (arr b) (ints a) = some ((((b.length : Int), (), ()), ()), (((), (), ()), ints (a ++ b), ()), ()) := by
  have h' : a.length + b.length ≤ 4294967296 := h
  have hg : (Nat.ble ((ints a ++ bytesOf (arr b)).length * 1) 140737488355328 && Nat.ble (ints a ++ bytesOf (arr b)).length 9223372036854775807) = true := by
    rw [Bool.and_eq_true, bytesOf_arr, List.length_append, ints_len, ints_len]
    exact ⟨Nat.ble_eq_true_of_le (by omega), Nat.ble_eq_true_of_le (by omega)⟩
  unfold F45.go
  rw [hg, bytesOf_arr, ints_append]; rfl
theorem F31_sum (sep : List UInt8) (m : List (List UInt8)) (ht : tot m ≤ lim) (c0 : Nat) (hc0 : c0 ≤ lim) : ∀ (post pre : List (List UInt8)) (c : Nat) (k q : Nat), pre ++ post = m → c ≤ c0 + tot pre → post.length < k →
    loopN (F31.s250 q) k (((pre.length : Int), (c : Int), (), arr sep, (), (m.length : Int), ()), (m.map arr, ()), ()) = some (.inr ((arr sep, (), ((c + tot post - post.length : Nat) : Int), ()), (m.map arr, ()), ()))
  | [], pre, c, k, q, hm, hc, hk => by
    rw [List.append_nil] at hm
    subst hm
    obtain ⟨k, rfl⟩ : ∃ k', k = k' + 1 := ⟨k - 1, by omega⟩
    refine loopN_inr ?_
    show F31.go250 q (pre.length : Int) (c : Int) (arr sep) (pre.length : Int) (pre.map arr) = _
    unfold F31.go250
    rw [ltN (by omega)]; rfl
  | x :: post, pre, c, k, q, hm, hc, hk => by
    have ht' : tot m ≤ 4294967296 := ht
    have hc0' : c0 ≤ 4294967296 := hc0
    have hml : m.length = pre.length + 1 + post.length := by rw [← hm]; simp; omega
    have htl := tot_len m
    have htp : tot pre + (x.length + 1 + tot post) = tot m := by rw [← hm, tot_append]; rfl
    have hpl := tot_len post
    obtain ⟨k, rfl⟩ : ∃ k', k = k' + 1 := ⟨k - 1, by omega⟩
    have hs : F31.s250 q (((pre.length : Int), (c : Int), (), arr sep, (), (m.length : Int), ()), (m.map arr, ()), ()) = some (.inl ((((pre ++ [x]).length : Int), ((c + x.length : Nat) : Int), (), arr sep, (), (m.length : Int), ()), (m.map arr, ()), ())) := by
      show F31.go250 q (pre.length : Int) (c : Int) (arr sep) (m.length : Int) (m.map arr) = _
      unfold F31.go250
      have hwn : IntKind.i64.wrap ((pre.length : Int) + 1) = ((pre.length + 1 : Nat) : Int) := wadd1 _ (by show _ ≤ 140737488351232; omega)
      have hg : (m.map arr).getD pre.length ⟨⟨[]⟩⟩ = arr x := by rw [map_getD, ← hm]; simp
      have hl1 : (pre ++ [x]).length = pre.length + 1 := by simp
      have hw1 : IntKind.i64.wrap (9223372036854775807 - (c : Int)) = 9223372036854775807 - (c : Int) := by rw [wrap_id (by omega) (by omega)]
      have hw2 : IntKind.i64.wrap ((c : Int) + (x.length : Int)) = ((c + x.length : Nat) : Int) := by rw [wrap_id (by omega) (by omega)]; omega
      rw [List.length_map, ltD (by omega), dec0, Int.toNat_natCast, hg, hwn, arr_size, hw1, hw2, hl1, decide_eq_false (by omega)]
      rfl
    rw [loopN_inl hs, F31_sum sep m ht c0 hc0 post (pre ++ [x]) (c + x.length) k q (by rw [← hm]; simp) (by rw [tot_append]; show c + x.length ≤ c0 + (tot pre + (x.length + 1 + 0)); omega) (by simp only [List.length_cons] at hk; omega)]
    have : c + x.length + tot post - post.length = c + tot (x :: post) - (x :: post).length := by
      show _ = c + (x.length + 1 + tot post) - (post.length + 1); omega
    rw [this]
theorem F31_write (a0 : List UInt8) (m : List (List UInt8)) (ht : tot (a0 :: m) ≤ lim) : ∀ (post pre : List (List UInt8)) (k q : Nat), pre ++ post = m → post.length < k →
    loopN (F31.s4090 q) k (((pre.length : Int), (), arr [47], (1, m.length), (m.length : Int), ()), ((a0 :: m).map arr, ((), (), ()), ints (joinL (a0 :: pre)), ()), ()) =
      some (((), ()), ((a0 :: m).map arr, ((), (), ()), ints (joinL (a0 :: m)), ()), ())
  | [], pre, k, q, hm, hk => by
    rw [List.append_nil] at hm
    subst hm
    obtain ⟨k, rfl⟩ : ∃ k', k = k' + 1 := ⟨k - 1, by omega⟩
    refine loopN_inr ?_
    show F31.go4090 q (pre.length : Int) (arr [47]) (1, pre.length) (pre.length : Int) ((a0 :: pre).map arr) (ints (joinL (a0 :: pre))) = _
    unfold F31.go4090
    rw [ltN (by omega)]; rfl
  | x :: post, pre, k, q, hm, hk => by
    have ht' : a0.length + 1 + tot m ≤ 4294967296 := ht
    have hml : m.length = pre.length + 1 + post.length := by rw [← hm]; simp; omega
    have htl := tot_len m
    have htp : tot pre + (x.length + 1 + tot post) = tot m := by rw [← hm, tot_append]; rfl
    have hjl : (joinL (a0 :: pre)).length = a0.length + tot pre := by show (a0 ++ joinT pre).length = _; rw [List.length_append, joinT_len]
    obtain ⟨k, rfl⟩ : ∃ k', k = k' + 1 := ⟨k - 1, by omega⟩
    have hs : F31.s4090 q (((pre.length : Int), (), arr [47], (1, m.length), (m.length : Int), ()), ((a0 :: m).map arr, ((), (), ()), ints (joinL (a0 :: pre)), ()), ()) =
        some (.inl ((((pre ++ [x]).length : Int), (), arr [47], (1, m.length), (m.length : Int), ()), ((a0 :: m).map arr, ((), (), ()), ints (joinL (a0 :: (pre ++ [x]))), ()), ())) := by
      show F31.go4090 q (pre.length : Int) (arr [47]) (1, m.length) (m.length : Int) ((a0 :: m).map arr) (ints (joinL (a0 :: pre))) = _
      unfold F31.go4090
      have hwn : IntKind.i64.wrap ((pre.length : Int) + 1) = ((pre.length + 1 : Nat) : Int) := wadd1 _ (by show _ ≤ 140737488351232; omega)
      have hg : ((a0 :: m).map arr).getD (1 + pre.length) ⟨⟨[]⟩⟩ = arr x := by
        rw [map_getD, ← hm, Nat.add_comm]; simp
      have hl1 : (pre ++ [x]).length = pre.length + 1 := by simp
      have hj2 : joinL (a0 :: (pre ++ [x])) = joinL (a0 :: pre) ++ [47] ++ x := joinL_snoc (a0 :: pre) x
      rw [ltD (by omega), dec0, Int.toNat_natCast, hg, hwn, hl1, hj2, F45_eq q (joinL (a0 :: pre)) [47] (by rw [hjl]; show a0.length + tot pre + 1 ≤ 4294967296; omega)]
      simp only [Option.bind_some, cond_true, Bool.and_true]
      rw [F45_eq q (joinL (a0 :: pre) ++ [47]) x (by rw [List.length_append, hjl]; show a0.length + tot pre + 1 + x.length ≤ 4294967296; omega)]
      rfl
    rw [loopN_inl hs]
    exact F31_write a0 m ht post (pre ++ [x]) k q (by rw [← hm]; simp) (by simp only [List.length_cons] at hk; omega)
theorem F31_31 (k : Nat) (a0 a1 : List UInt8) (m : List (List UInt8)) (ht : tot (a0 :: a1 :: m) ≤ lim) (hk : m.length + 2 < k) :
    F31.go31 k (((a1 :: m).length : Nat) : Int) (arr [47]) ((a0 :: a1 :: m).map arr) = some (.inr ((arr (joinL (a0 :: a1 :: m)), ()), ((a0 :: a1 :: m).map arr, ()), ())) := by
  have ht' : a0.length + 1 + (a1.length + 1 + tot m) ≤ 4294967296 := ht
  have htl := tot_len m
  unfold F31.go31
  rw [List.length_map]
  have h1 := F31_sum [47] (a0 :: a1 :: m) ht (a1 :: m).length (by show m.length + 1 ≤ 4294967296; omega) (a0 :: a1 :: m) [] (a1 :: m).length k k rfl (by simp [tot]) (by simpa using hk)
  have e1 : (a1 :: m).length + tot (a0 :: a1 :: m) - (a0 :: a1 :: m).length = (joinL (a0 :: a1 :: m)).length := by
    show (m.length + 1) + (a0.length + 1 + (a1.length + 1 + tot m)) - (m.length + 1 + 1) = (a0 ++ joinT (a1 :: m)).length
    rw [List.length_append, joinT_len]
    show _ = a0.length + (a1.length + 1 + tot m); omega
  rw [e1] at h1
  have h1' : F31.l_250 k (((0 : Int), (((a1 :: m).length : Nat) : Int), (), arr [47], (), (((a0 :: a1 :: m).length : Nat) : Int), ()), ((a0 :: a1 :: m).map arr, ()), ()) = _ := h1
  rw [h1']
  simp only [Option.bind_some, Sum.elim_inr]
  have hjl : (joinL (a0 :: a1 :: m)).length = a0.length + (a1.length + 1 + tot m) := by
    show (a0 ++ joinT (a1 :: m)).length = _; rw [List.length_append, joinT_len]; rfl
  have hG : F44.go k (((joinL (a0 :: a1 :: m)).length : Nat) : Int) = some (.inr (((), ()), (((), (), ()), [], ()), ())) := by
    unfold F44.go
    rw [decide_eq_false (show ¬ ((((joinL (a0 :: a1 :: m)).length : Nat) : Int) < 0) by omega), decide_eq_true (show (0 : Int) < (((joinL (a0 :: a1 :: m)).length : Nat) : Int) by rw [hjl]; omega),
      decide_eq_true (show (((joinL (a0 :: a1 :: m)).length : Nat) : Int) ≤ 281474976710656 by rw [hjl]; omega)]
    rfl
  rw [hG]
  simp only [Option.bind_some, Sum.elim_inr]
  have hW0 : F45.go k (((a0 :: a1 :: m).map arr).getD 0 ⟨⟨[]⟩⟩) [] = some ((((a0.length : Int), (), ()), ()), (((), (), ()), ints (joinL [a0]), ()), ()) := by
    have := F45_eq k [] a0 (by show 0 + a0.length ≤ 4294967296; omega)
    show F45.go k (arr a0) (ints []) = _
    rw [this]
    show some (((((a0.length : Int), (), ()), ()), (((), (), ()), ints ([] ++ a0), ()), ())) = some (((((a0.length : Int), (), ()), ()), (((), (), ()), ints (a0 ++ []), ()), ()))
    rw [List.append_nil]; rfl
  have hd1 : decide (0 < (((((a0 :: a1 :: m).map arr).length : Nat) : Int))) = true := decide_eq_true (by rw [List.length_map]; simp; omega)
  have hd2 : decide (1 ≤ (((((a0 :: a1 :: m).map arr).length : Nat) : Int))) = true := decide_eq_true (by rw [List.length_map]; simp; omega)
  have hl : ((a0 :: a1 :: m).map arr).length - 1 = (a1 :: m).length := by simp
  have hloop := F31_write a0 (a1 :: m) ht (a1 :: m) [] k k rfl (by simp; omega)
  have hd1' : decide (0 < (((a0 :: a1 :: m).length : Nat) : Int)) = true := decide_eq_true (by simp; omega)
  have hloop' : F31.l_4090 k (((0 : Int), (), arr [47], (1, (a1 :: m).length), (((a1 :: m).length : Nat) : Int), ()), ((a0 :: a1 :: m).map arr, ((), (), ()), ints (joinL [a0]), ()), ()) = _ := hloop
  simp only [hd1, hd1', cond_true, hW0, Option.bind_some, hl, hd2]
  rw [hloop']
  simp only [Option.bind_some, cond_true]
  rw [Nat.ble_eq_true_of_le (by rw [ints_len, hjl]; omega), strOf_ints]
  rfl
theorem F31_eq (k : Nat) (m : List (List UInt8)) (ht : tot m ≤ lim) (hk : m.length < k) :
    F31.go k (arr [47]) (m.map arr) = some (.inl ((arr (joinL m), ()), (m.map arr, ()), ())) := by
  match m, ht, hk with
  | [], _, _ => rfl
  | [a], _, _ =>
    show some (Sum.inl ((arr a, ()), ([arr a], ()), ())) = some (Sum.inl ((arr (a ++ []), ()), ([arr a], ()), ()))
    rw [List.append_nil]
  | a0 :: a1 :: m, ht, hk =>
    have ht' : a0.length + 1 + (a1.length + 1 + tot m) ≤ 4294967296 := ht
    have htl := tot_len m
    unfold F31.go
    rw [List.length_map]
    have hl : (a0 :: a1 :: m).length = m.length + 2 := rfl
    have h1 : ((((a0 :: a1 :: m).length : Nat) : Int) == 0) = false := by rw [hl]; simp; omega
    have h2 : ((((a0 :: a1 :: m).length : Nat) : Int) == 1) = false := by rw [hl]; simp; omega
    have h3 : IntKind.i64.wrap ((((a0 :: a1 :: m).length : Nat) : Int) - 1) = (((a1 :: m).length : Nat) : Int) := by
      rw [hl, wrap_id (by omega) (by omega)]; show _ = (((m.length + 1 : Nat)) : Int); omega
    have h4 : ((((a1 :: m).length : Nat) : Int) == 0) = false := by simp; omega
    have h5 : (2 : Int) ≤ Int.tdiv 9223372036854775807 (((a1 :: m).length : Nat) : Int) := by
      rw [Int.tdiv_eq_ediv_of_nonneg (by omega)]
      exact (Int.le_ediv_iff_mul_le (by show (0 : Int) < ((m.length + 1 : Nat) : Int); omega)).2 (by show (2 : Int) * ((m.length + 1 : Nat) : Int) ≤ _; omega)
    have h5b : Int.tdiv 9223372036854775807 (((a1 :: m).length : Nat) : Int) ≤ 9223372036854775807 := by
      rw [Int.tdiv_eq_ediv_of_nonneg (by omega)]
      exact Int.ediv_le_self _ (by omega)
    have h6 : IntKind.i64.wrap (Int.tdiv 9223372036854775807 (((a1 :: m).length : Nat) : Int)) = Int.tdiv 9223372036854775807 (((a1 :: m).length : Nat) : Int) := by rw [wrap_id (by omega) (by omega)]
    have h7 : IntKind.i64.wrap (0 + IntKind.i64.wrap (((arr [47]).size : Int) * (((a1 :: m).length : Nat) : Int))) = (((a1 :: m).length : Nat) : Int) := by
      have e : (((arr [47]).size : Int) * (((a1 :: m).length : Nat) : Int)) = (((a1 :: m).length : Nat) : Int) := by show (1 : Int) * _ = _; omega
      have hle : (((a1 :: m).length : Nat) : Int) ≤ 4294967296 := by show ((m.length + 1 : Nat) : Int) ≤ _; omega
      have e2 : IntKind.i64.wrap (((a1 :: m).length : Nat) : Int) = (((a1 :: m).length : Nat) : Int) := by rw [wrap_id (by omega) (by omega)]
      rw [e, e2, Int.zero_add, e2]
    rw [h1, h2, h3, h4, h6, h7]
    have h8 : decide (((arr [47]).size : Int) > 0) = true := by decide
    have h9 : decide (((arr [47]).size : Int) ≥ Int.tdiv 9223372036854775807 (((a1 :: m).length : Nat) : Int)) = false := decide_eq_false (by show ¬ ((1 : Int) ≥ _); omega)
    rw [h8, h9]
    simp only [cond_true, cond_false]
    rw [F31_31 k a0 a1 m ht (by simpa using hk)]
    rfl
theorem F11_eq (k : Nat) (abs slash : Bool) (m : List (List UInt8)) (ht : tot m ≤ lim) (hk : m.length < k) :
    F11.go k abs slash (m.map arr) = some (.inl ((arr (strL abs slash m), ()), (m.map arr, ()), ())) := by
  have ht' : tot m ≤ 4294967296 := ht
  have hj := joinL_len m
  unfold F11.go strL
  show Option.bind (F31.go k (arr [47]) (m.map arr)) _ = _
  rw [F31_eq k m ht hk]
  simp only [Option.bind_some, Sum.elim_inl]
  rw [List.length_map, lenZ, lenG, szP, decide_eq_true (show 1 + (arr (joinL m)).size ≤ 9223372036854775807 by rw [arr_size]; omega), decide_eq_true (show (arr (joinL m)).size + 1 ≤ 9223372036854775807 by rw [arr_size]; omega),
    decide_eq_true (show 1 + (joinL m).length + 1 ≤ 9223372036854775807 by omega)]
  cases hm : m.isEmpty
  · cases abs <;> cases slash <;> simp [arr]
  · cases abs <;> cases slash <;> simp [arr]
theorem F33_eq (k : Nat) (abs : Bool) (m : List (List UInt8)) (ht : tot m ≤ lim) (hk : m.length < k) :
    F33.go k abs (m.map arr) = some (.inl ((arr (strL abs false m), ()), (m.map arr, ()), ())) := by
  unfold F33.go
  rw [F11_eq k abs false m ht hk]; rfl
def clL (s : List UInt8) : List UInt8 := strL (absL s) false (cleanL s)
theorem F15_eq (k : Nat) (s : List UInt8) (h : s.length + 1 ≤ lim) (hk : s.length + 1 < k) : F15.go k (arr s) = some (.inl ((arr (clL s), ()), (), ())) := by
  have ht := cleanL_tot s
  have htl := tot_len (cleanL s)
  unfold F15.go
  rw [F34_eq k s h]
  simp only [Option.bind_some]
  rw [F33_eq k (absL s) (cleanL s) (Nat.le_trans ht h) (by omega)]
  rfl
theorem F16_eq (k : Nat) (s : List UInt8) (h : s.length + 1 ≤ lim) (hk : s.length + 1 < k) : F16.go k (arr s) = some ((arr (clL s), ()), (), ()) := by
  have ht := cleanL_tot s
  have htl := tot_len (cleanL s)
  have hs := tot_splitN s []
  have hsl := tot_len (splitN [] s)
  simp only [List.length_nil] at hs
  unfold F16.go
  rw [F30_eq]
  simp only [Option.bind_some]
  rw [F29_eq k s h (by omega)]
  simp only [Option.bind_some]
  obtain ⟨row, p, he, hw⟩ := F35_eq k (absL s) (splitN [] s) (splitN_lim s h) (by omega)
  rw [he]
  simp only [Option.bind_some]
  rw [F12_eq k (absL s) false p row (cleanL s) hw (Nat.le_trans ht h) (by omega)]
  rfl
end Go.Proofs.Tryd.S

namespace Go.Proofs.Tryd.S
open Go Go.Ev
def neL (m : List (List UInt8)) : List (List UInt8) := m.filter fun x => !x.isEmpty
theorem neL_snoc (m : List (List UInt8)) (x : List UInt8) : neL (m ++ [x]) = if x.isEmpty then neL m else neL m ++ [x] := by
  unfold neL
  rw [List.filter_append]
  cases x with
  | nil => simp
  | cons a r => simp
theorem neL_tot : ∀ m : List (List UInt8), tot (neL m) ≤ tot m
  | [] => Nat.le_refl _
  | x :: m => by
    have ih := neL_tot m
    cases x with
    | nil => show tot (neL m) ≤ 0 + 1 + tot m; omega
    | cons a r => show (a :: r).length + 1 + tot (neL m) ≤ (a :: r).length + 1 + tot m; omega
theorem neL_len (m : List (List UInt8)) : (neL m).length ≤ m.length := List.length_filter_le _ _
theorem neL_empty (m : List (List UInt8)) : (joinL (neL m)).isEmpty = (neL m).isEmpty := by
  cases h : neL m with
  | nil => rfl
  | cons a r =>
    have ha : a ∈ neL m := by rw [h]; simp
    unfold neL at ha
    rw [List.mem_filter] at ha
    cases a with
    | nil => simp at ha
    | cons b s => rfl
def pJoin (m : List (List UInt8)) : List UInt8 := if (neL m).isEmpty then [] else clL (joinL (neL m))
theorem ne_beq (x : List UInt8) : ((arr x).toList == (⟨⟨[]⟩⟩ : ByteArray).toList) = x.isEmpty := (tl_beq x []).trans (nil_beq x)
theorem F17_loop (m : List (List UInt8)) (hl : m.length ≤ lim) : ∀ (post pre : List (List UInt8)) (k q : Nat), pre ++ post = m → post.length < k →
    loopN (F17.s58 q) k (((pre.length : Int), (), m.map arr, (m.length : Int), ()), ((neL pre).map arr, ()), ()) = some (((), ()), ((neL m).map arr, ()), ())
  | [], pre, k, q, hm, hk => by
    rw [List.append_nil] at hm
    subst hm
    obtain ⟨k, rfl⟩ : ∃ k', k = k' + 1 := ⟨k - 1, by omega⟩
    refine loopN_inr ?_
    show F17.go58 q (pre.length : Int) (pre.map arr) (pre.length : Int) ((neL pre).map arr) = _
    unfold F17.go58
    rw [ltN (by omega)]; rfl
  | x :: post, pre, k, q, hm, hk => by
    have hl' : m.length ≤ 4294967296 := hl
    have hml : m.length = pre.length + 1 + post.length := by rw [← hm]; simp; omega
    have hnl := neL_len pre
    obtain ⟨k, rfl⟩ : ∃ k', k = k' + 1 := ⟨k - 1, by omega⟩
    have hs : F17.s58 q (((pre.length : Int), (), m.map arr, (m.length : Int), ()), ((neL pre).map arr, ()), ()) = some (.inl ((((pre ++ [x]).length : Int), (), m.map arr, (m.length : Int), ()), ((neL (pre ++ [x])).map arr, ()), ())) := by
      show F17.go58 q (pre.length : Int) (m.map arr) (m.length : Int) ((neL pre).map arr) = _
      unfold F17.go58
      have hwn : IntKind.i64.wrap ((pre.length : Int) + 1) = ((pre.length + 1 : Nat) : Int) := wadd1 _ (by show _ ≤ 140737488351232; omega)
      have hg : (m.map arr).getD pre.length ⟨⟨[]⟩⟩ = arr x := by rw [map_getD, ← hm]; simp
      have hl1 : (pre ++ [x]).length = pre.length + 1 := by simp
      have hap : (neL pre).map arr ++ [arr x] = (neL pre ++ [x]).map arr := by simp
      have hguard := guard16 ((neL pre).map arr ++ [arr x]) (by rw [List.length_append, List.length_map]; show (neL pre).length + 1 ≤ 4294967296; omega)
      rw [List.length_map, ltD (by omega), dec0, Int.toNat_natCast, hg, hwn, hl1, hguard, ne_beq, neL_snoc, hap]
      cases x.isEmpty <;> rfl
    rw [loopN_inl hs]
    exact F17_loop m hl post (pre ++ [x]) k q (by rw [← hm]; simp) (by simp only [List.length_cons] at hk; omega)
theorem F17_eq (k : Nat) (m : List (List UInt8)) (ht : tot m + 1 ≤ lim) (hk : tot m + 1 < k) : F17.go k (m.map arr) = some (.inl ((arr (pJoin m), ()), (), ())) := by
  have ht' : tot m + 1 ≤ 4294967296 := ht
  have hml := tot_len m
  have hnt := neL_tot m
  have hnl := neL_len m
  have hj := joinL_len (neL m)
  have h1 := F17_loop m (by show _ ≤ 4294967296; omega) m [] k k rfl (by omega)
  have h1' : F17.l_58 k (((0 : Int), (), m.map arr, ((m.length : Nat) : Int), ()), ([], ()), ()) = _ := h1
  unfold F17.go pJoin
  rw [List.length_map, h1']
  simp only [Option.bind_some]
  rw [List.length_map, lenZ]
  cases hne : (neL m).isEmpty
  · show Option.bind (F31.go k (arr [47]) ((neL m).map arr)) _ = _
    rw [F31_eq k (neL m) (by show _ ≤ 4294967296; omega) (by omega)]
    simp only [Option.bind_some, Sum.elim_inl]
    rw [F15_eq k (joinL (neL m)) (by show _ ≤ 4294967296; omega) (by omega)]
    rfl
  · rfl
theorem F18_loop (m : List (List UInt8)) (ht : tot m ≤ lim) : ∀ (post pre : List (List UInt8)) (k q : Nat), pre ++ post = m → post.length < k →
    loopN (F18.s58 q) k (((pre.length : Int), arr (joinL (neL pre)), m.map arr, (m.length : Int), ()), (), ()) = some ((arr (joinL (neL m)), ()), (), ())
  | [], pre, k, q, hm, hk => by
    rw [List.append_nil] at hm
    subst hm
    obtain ⟨k, rfl⟩ : ∃ k', k = k' + 1 := ⟨k - 1, by omega⟩
    refine loopN_inr ?_
    show F18.go58 q (pre.length : Int) (arr (joinL (neL pre))) (pre.map arr) (pre.length : Int) = _
    unfold F18.go58
    rw [ltN (by omega)]; rfl
  | x :: post, pre, k, q, hm, hk => by
    have ht' : tot m ≤ 4294967296 := ht
    have hml : m.length = pre.length + 1 + post.length := by rw [← hm]; simp; omega
    have htp : tot pre + (x.length + 1 + tot post) = tot m := by rw [← hm, tot_append]; rfl
    have htl := tot_len m
    have hnt := neL_tot pre
    have hjl := joinL_len (neL pre)
    obtain ⟨k, rfl⟩ : ∃ k', k = k' + 1 := ⟨k - 1, by omega⟩
    have hs : F18.s58 q (((pre.length : Int), arr (joinL (neL pre)), m.map arr, (m.length : Int), ()), (), ()) = some (.inl ((((pre ++ [x]).length : Int), arr (joinL (neL (pre ++ [x]))), m.map arr, (m.length : Int), ()), (), ())) := by
      show F18.go58 q (pre.length : Int) (arr (joinL (neL pre))) (m.map arr) (m.length : Int) = _
      unfold F18.go58
      have hwn : IntKind.i64.wrap ((pre.length : Int) + 1) = ((pre.length + 1 : Nat) : Int) := wadd1 _ (by show _ ≤ 140737488351232; omega)
      have hg : (m.map arr).getD pre.length ⟨⟨[]⟩⟩ = arr x := by rw [map_getD, ← hm]; simp
      have hl1 : (pre ++ [x]).length = pre.length + 1 := by simp
      rw [List.length_map, ltD (by omega), dec0, Int.toNat_natCast, hg, hwn, hl1, ne_beq, ne_beq, szI, neL_snoc, neL_empty,
        decide_eq_true (show (arr (joinL (neL pre))).size + 1 ≤ 9223372036854775807 by rw [arr_size]; omega),
        decide_eq_true (show (joinL (neL pre)).length + 1 + (arr x).size ≤ 9223372036854775807 by rw [arr_size]; omega),
        decide_eq_true (show (arr (joinL (neL pre))).size + (arr x).size ≤ 9223372036854775807 by rw [arr_size, arr_size]; omega)]
      cases hx : x.isEmpty
      · simp only [Bool.false_eq_true, if_false]
        rw [joinL_snoc]
        cases hp : (neL pre).isEmpty
        · rfl
        · have : neL pre = [] := List.isEmpty_iff.1 hp
          rw [this]; rfl
      · rfl
    rw [loopN_inl hs]
    exact F18_loop m ht post (pre ++ [x]) k q (by rw [← hm]; simp) (by simp only [List.length_cons] at hk; omega)
theorem F18_eq (k : Nat) (m : List (List UInt8)) (ht : tot m + 1 ≤ lim) (hk : tot m + 1 < k) : F18.go k (m.map arr) = some ((arr (pJoin m), ()), (), ()) := by
  have ht' : tot m + 1 ≤ 4294967296 := ht
  have hml := tot_len m
  have hnt := neL_tot m
  have hj := joinL_len (neL m)
  have h1 := F18_loop m (by show _ ≤ 4294967296; omega) m [] k k rfl (by omega)
  have h1' : F18.l_58 k (((0 : Int), ⟨⟨[]⟩⟩, m.map arr, ((m.length : Nat) : Int), ()), (), ()) = _ := h1
  unfold F18.go pJoin
  rw [List.length_map, h1']
  simp only [Option.bind_some]
  rw [ne_beq, neL_empty]
  cases hne : (neL m).isEmpty
  · simp only [cond_false, Bool.false_eq_true, if_false]
    rw [F16_eq k (joinL (neL m)) (by show _ ≤ 4294967296; omega) (by omega)]
    rfl
  · rfl
/-! the law -/
theorem F4_loop (s : List UInt8) (m : List (List UInt8)) (hs : s.length ≤ big) (hb : m.length ≤ big) (hx : ∀ x ∈ m, x.length ≤ big) (q : Nat) (hq : 300 ≤ q) : ∀ (post pre : List (List UInt8)) (k : Nat), pre ++ post = m → (pre = [] ∨ s.length + tot pre ≤ 5000) → post.length < k →
    loopN (F4.s58 q) k (((pre.length : Int), ((s.length + tot pre : Nat) : Int), m.map arr, m.map arr, arr s, (m.length : Int), ()), (), ()) = some (.inl ((true, ()), (), ())) ∨
    (loopN (F4.s58 q) k (((pre.length : Int), ((s.length + tot pre : Nat) : Int), m.map arr, m.map arr, arr s, (m.length : Int), ()), (), ()) = some (.inr (.inr ((m.map arr, arr s, ((s.length + tot m : Nat) : Int), ()), (), ()))) ∧ (m = [] ∨ s.length + tot m ≤ 5000))
  | [], pre, k, hm, hp, hk => by
    rw [List.append_nil] at hm
    subst hm
    obtain ⟨k, rfl⟩ : ∃ k', k = k' + 1 := ⟨k - 1, by omega⟩
    refine .inr ⟨loopN_inr ?_, hp⟩
    show F4.go58 q (pre.length : Int) ((s.length + tot pre : Nat) : Int) (pre.map arr) (pre.map arr) (arr s) (pre.length : Int) = _
    unfold F4.go58
    rw [ltN (by omega)]; rfl
  | x :: post, pre, k, hm, hp, hk => by
    have hs' : s.length ≤ 140737488351232 := hs
    have hb' : m.length ≤ 140737488351232 := hb
    have hxl : x.length ≤ 140737488351232 := hx x (by rw [← hm]; simp)
    have hml : m.length = pre.length + 1 + post.length := by rw [← hm]; simp; omega
    have hpt : s.length + tot pre ≤ 140737488351232 := by
      rcases hp with rfl | h
      · exact hs
      · omega
    have htp : tot (pre ++ [x]) = tot pre + (x.length + 1) := by rw [tot_append]; rfl
    obtain ⟨k, rfl⟩ : ∃ k', k = k' + 1 := ⟨k - 1, by omega⟩
    have hstep : F4.s58 q (((pre.length : Int), ((s.length + tot pre : Nat) : Int), m.map arr, m.map arr, arr s, (m.length : Int), ()), (), ()) =
        if 5000 < s.length + tot (pre ++ [x]) then some (.inr (.inl ((true, ()), (), ()))) else some (.inl ((((pre ++ [x]).length : Int), ((s.length + tot (pre ++ [x]) : Nat) : Int), m.map arr, m.map arr, arr s, (m.length : Int), ()), (), ())) := by
      show F4.go58 q (pre.length : Int) ((s.length + tot pre : Nat) : Int) (m.map arr) (m.map arr) (arr s) (m.length : Int) = _
      unfold F4.go58
      have hwn : IntKind.i64.wrap ((pre.length : Int) + 1) = ((pre.length + 1 : Nat) : Int) := by rw [wrap_id (by omega) (by omega)]; omega
      have hg : (m.map arr).getD pre.length ⟨⟨[]⟩⟩ = arr x := by rw [map_getD, ← hm]; simp
      have hl1 : (pre ++ [x]).length = pre.length + 1 := by simp
      have hw2 : IntKind.i64.wrap (((arr x).size : Int) + 1) = ((x.length + 1 : Nat) : Int) := by rw [arr_size, wrap_id (by omega) (by omega)]; omega
      have hw3 : IntKind.i64.wrap (((s.length + tot pre : Nat) : Int) + ((x.length + 1 : Nat) : Int)) = ((s.length + tot (pre ++ [x]) : Nat) : Int) := by rw [htp, wrap_id (by omega) (by omega)]; omega
      rw [List.length_map, ltD (by omega), dec0, Int.toNat_natCast, hg, hw2, hw3, hwn, hl1]
      by_cases hc : 5000 < s.length + tot (pre ++ [x])
      · rw [decide_eq_true (show (((s.length + tot (pre ++ [x]) : Nat) : Int) > 5000) by omega), if_pos hc, lives q hq]; rfl
      · rw [decide_eq_false (show ¬ (((s.length + tot (pre ++ [x]) : Nat) : Int) > 5000) by omega), if_neg hc]; rfl
    by_cases hc : 5000 < s.length + tot (pre ++ [x])
    · rw [if_pos hc] at hstep
      exact .inl (loopN_inr hstep)
    · rw [if_neg hc] at hstep
      rw [loopN_inl hstep]
      exact F4_loop s m hs hb hx q hq post (pre ++ [x]) k (by rw [← hm]; simp) (.inr (by omega)) (by simp only [List.length_cons] at hk; omega)
/-- Clean and Join write the shortest path -/
theorem pathCleans (k : Nat) (s : List UInt8) (m : List (List UInt8)) (hs : s.length ≤ big) (hb : m.length ≤ big) (hx : ∀ x ∈ m, x.length ≤ big) (hk : 6000 ≤ k) (hk2 : m.length < k) :
    F4.go k (arr s) (m.map arr) = some (Sum.inl ((true, ()), (), ())) := by
  have hl := F4_loop s m hs hb hx k (by omega) m [] k rfl (.inl rfl) hk2
  unfold F4.go
  have e : F4.l_58 k (((0 : Int), (((arr s).size : Nat) : Int), m.map arr, m.map arr, arr s, (((m.map arr).length : Nat) : Int), ()), (), ()) = loopN (F4.s58 k) k (((([] : List (List UInt8)).length : Int), ((s.length + tot [] : Nat) : Int), m.map arr, m.map arr, arr s, (m.length : Int), ()), (), ()) := by
    rw [List.length_map]; rfl
  rw [e]
  rcases hl with h | ⟨h, hsm⟩
  · rw [h]; rfl
  · rw [h]
    simp only [Option.bind_some, Sum.elim_inr]
    by_cases hc : 5000 < s.length + tot m
    · rw [decide_eq_true (show (((s.length + tot m : Nat) : Int) > 5000) by omega), lives k (by omega)]; rfl
    · have hn : tot m + 1 ≤ lim := by show _ ≤ 4294967296; omega
      rw [decide_eq_false (show ¬ (((s.length + tot m : Nat) : Int) > 5000) by omega)]
      simp only [cond_false]
      rw [F15_eq k s (by show _ ≤ 4294967296; omega) (by omega)]
      simp only [Option.bind_some, Sum.elim_inl]
      rw [F16_eq k s (by show _ ≤ 4294967296; omega) (by omega)]
      simp only [Option.bind_some]
      rw [beq_self_eq_true, F17_eq k m hn (by omega)]
      simp only [Option.bind_some, Sum.elim_inl, cond_true]
      rw [F18_eq k m hn (by omega)]
      simp only [Option.bind_some]
      rw [beq_self_eq_true, lives k (by omega)]; rfl
theorem eta_list (l : List ByteArray) : l = (l.map fun s => s.data.toList).map arr := by
  rw [List.map_map]
  have : (arr ∘ fun s : ByteArray => s.data.toList) = id := by funext s; rfl
  rw [this, List.map_id]
theorem pathCleansP (a0 : ByteArray) (a1 : List ByteArray) (h0 : a0.size ≤ big) (h1 : a1.length ≤ big ∧ ∀ s ∈ a1, s.size ≤ big) : ∃ k, F4.go k a0 a1 = some (Sum.inl ((true, ()), (), ())) := by
  have h := pathCleans (big + 6000) a0.data.toList (a1.map fun s => s.data.toList) h0 (by rw [List.length_map]; exact h1.1)
    (fun x hx => by obtain ⟨s, hs, rfl⟩ := List.mem_map.1 hx; exact h1.2 s hs) (by show 6000 ≤ 140737488351232 + 6000; omega)
    (by rw [List.length_map]; have := h1.1; have h' : a1.length ≤ 140737488351232 := this; show _ < 140737488351232 + 6000; omega)
  rw [← eta_list] at h
  exact ⟨_, h⟩
end Go.Proofs.Tryd.S

namespace Go.Proofs.Tryd.S
open Go Go.Ev
theorem Win.tail {row : List ByteArray} {o n : Nat} {x : List UInt8} {m : List (List UInt8)} (h : Win row (o, n) (x :: m)) : Win row (o + 1, n - 1) m := by
  have hl := h.len
  have hle := h.le
  simp only [List.length_cons] at hl hle
  have hn : n = m.length + 1 := hl
  subst hn
  refine ⟨by simp only; omega, ?_⟩
  have e := congrArg List.tail h.eq
  simp only [List.map_cons, List.tail_cons] at e
  rw [← e]
  simp only [Nat.add_sub_cancel]
  rw [← List.drop_one, List.drop_take, List.drop_drop, Nat.add_sub_cancel]
def strip : List (List UInt8) → List (List UInt8) → List (List UInt8) × List (List UInt8)
  | x :: a, y :: b => if x == y then strip a b else (x :: a, y :: b)
  | a, b => (a, b)
theorem strip_nil (b : List (List UInt8)) : strip [] b = ([], b) := by unfold strip; rfl
theorem strip_nil2 (a : List (List UInt8)) : strip a [] = (a, []) := by cases a <;> rfl
theorem strip_cons (x y : List UInt8) (a b : List (List UInt8)) : strip (x :: a) (y :: b) = if x == y then strip a b else (x :: a, y :: b) := rfl
theorem strip_len : ∀ a b : List (List UInt8), tot (strip a b).1 ≤ tot a ∧ tot (strip a b).2 ≤ tot b
  | [], b => by rw [strip_nil]; exact ⟨Nat.le_refl _, Nat.le_refl _⟩
  | x :: a, [] => by rw [strip_nil2]; exact ⟨Nat.le_refl _, Nat.le_refl _⟩
  | x :: a, y :: b => by
    rw [strip_cons]
    have h := strip_len a b
    have h1 : tot (x :: a) = x.length + 1 + tot a := rfl
    have h2 : tot (y :: b) = y.length + 1 + tot b := rfl
    split
    · exact ⟨by omega, by omega⟩
    · exact ⟨Nat.le_refl _, Nat.le_refl _⟩
theorem tot_rep (n : Nat) : tot (List.replicate n dd) = 3 * n := by
  induction n with
  | zero => rfl
  | succ n ih => rw [List.replicate_succ]; show 2 + 1 + tot (List.replicate n dd) = _; omega
theorem gtZ {n : Nat} : decide ((n : Int) > 0) = decide (0 < n) := by
  by_cases h : 0 < n
  · rw [decide_eq_true h, decide_eq_true (by omega)]
  · rw [decide_eq_false h, decide_eq_false (by omega)]
theorem F19_strip : ∀ (a b : List (List UInt8)) (ao an bo bn : Nat) (rowa rowb : List ByteArray) (k q : Nat), Win rowa (ao, an) a → Win rowb (bo, bn) b → a.length < k →
    ∃ pa pb, loopN (F19.s124 q) k (((bo, bn), (ao, an), ()), (rowb, rowa, ()), ()) = some ((pb, pa, ()), (rowb, rowa, ()), ()) ∧ Win rowa pa (strip a b).1 ∧ Win rowb pb (strip a b).2
  | [], b, ao, an, bo, bn, rowa, rowb, k, q, ha, hb, hk => by
    obtain ⟨k, rfl⟩ : ∃ k', k = k' + 1 := ⟨k - 1, by omega⟩
    have hla := ha.len
    simp only [List.length_nil] at hla
    subst hla
    refine ⟨(ao, 0), (bo, bn), loopN_inr ?_, by rw [strip_nil]; exact ha, by rw [strip_nil]; exact hb⟩
    rfl
  | x :: a, [], ao, an, bo, bn, rowa, rowb, k, q, ha, hb, hk => by
    obtain ⟨k, rfl⟩ : ∃ k', k = k' + 1 := ⟨k - 1, by omega⟩
    have hla := ha.len
    have hlb := hb.len
    simp only [List.length_nil, List.length_cons] at hla hlb
    subst hla hlb
    refine ⟨(ao, a.length + 1), (bo, 0), loopN_inr ?_, by rw [strip_nil2]; exact ha, by rw [strip_nil2]; exact hb⟩
    show F19.go124 q (bo, 0) (ao, a.length + 1) rowb rowa = _
    unfold F19.go124
    rw [gtZ, gtZ, decide_eq_true (Nat.succ_pos _)]
    rfl
  | x :: a, y :: b, ao, an, bo, bn, rowa, rowb, k, q, ha, hb, hk => by
    obtain ⟨k, rfl⟩ : ∃ k', k = k' + 1 := ⟨k - 1, by omega⟩
    have hla := ha.len
    have hlb := hb.len
    simp only [List.length_nil, List.length_cons] at hla hlb
    subst hla hlb
    have ga : rowa.getD (ao + 0) ⟨⟨[]⟩⟩ = arr x := ha.get (i := 0) (Nat.succ_pos _)
    have gb : rowb.getD (bo + 0) ⟨⟨[]⟩⟩ = arr y := hb.get (i := 0) (Nat.succ_pos _)
    have hs : F19.s124 q (((bo, b.length + 1), (ao, a.length + 1), ()), (rowb, rowa, ()), ()) = if x == y then some (.inl (((bo + 1, b.length + 1 - 1), (ao + 1, a.length + 1 - 1), ()), (rowb, rowa, ()), ())) else some (.inr (((bo, b.length + 1), (ao, a.length + 1), ()), (rowb, rowa, ()), ())) := by
      show F19.go124 q (bo, b.length + 1) (ao, a.length + 1) rowb rowa = _
      unfold F19.go124
      have h1 : decide (0 < ((a.length + 1 : Nat) : Int)) = true := decide_eq_true (by omega)
      have h2 : decide (0 < ((b.length + 1 : Nat) : Int)) = true := decide_eq_true (by omega)
      have h3 : decide (1 ≤ ((a.length + 1 : Nat) : Int)) = true := decide_eq_true (by omega)
      have h4 : decide (1 ≤ ((b.length + 1 : Nat) : Int)) = true := decide_eq_true (by omega)
      have h5 : decide (((a.length + 1 : Nat) : Int) > 0) = true := decide_eq_true (by omega)
      have h6 : decide (((b.length + 1 : Nat) : Int) > 0) = true := decide_eq_true (by omega)
      simp only [h1, h2, h3, h4, h5, h6, ga, gb, tl_beq, cond_true]
      cases x == y <;> rfl
    rw [strip_cons]
    by_cases hxy : (x == y) = true
    · rw [if_pos hxy] at hs ⊢
      rw [loopN_inl hs]
      exact F19_strip a b (ao + 1) (a.length + 1 - 1) (bo + 1) (b.length + 1 - 1) rowa rowb k q ha.tail hb.tail (by simp only [List.length_cons] at hk; omega)
    · rw [if_neg hxy] at hs ⊢
      exact ⟨_, _, loopN_inr hs, ha, hb⟩
theorem F19_up (a : List (List UInt8)) (ao an bo bn : Nat) (rowa rowb : List ByteArray) (ha : Win rowa (ao, an) a) (hl : a.length + 1 ≤ lim) : ∀ (post pre : List (List UInt8)) (k q : Nat), pre ++ post = a → post.length < k →
    loopN (F19.s1018 q) k (((pre.length : Int), (), (ao, an), (bo, bn), (an : Int), ()), ((List.replicate pre.length dd).map arr, rowa, rowb, ()), ()) =
      some (if post.any (· == dd) then .inl ((⟨⟨[]⟩⟩, false, ()), (), ()) else .inr (((bo, bn), (), ()), (rowb, (List.replicate a.length dd).map arr, ()), ()))
  | [], pre, k, q, hm, hk => by
    rw [List.append_nil] at hm
    subst hm
    have hla := ha.len
    simp only at hla
    subst hla
    obtain ⟨k, rfl⟩ : ∃ k', k = k' + 1 := ⟨k - 1, by omega⟩
    refine loopN_inr ?_
    show F19.go1018 q (pre.length : Int) (ao, pre.length) (bo, bn) (pre.length : Int) ((List.replicate pre.length dd).map arr) rowa rowb = _
    unfold F19.go1018
    rw [ltN (by omega)]; rfl
  | x :: post, pre, k, q, hm, hk => by
    have hl' : a.length + 1 ≤ 4294967296 := hl
    have hla := ha.len
    simp only at hla
    subst hla
    have hml : a.length = pre.length + 1 + post.length := by rw [← hm]; simp; omega
    obtain ⟨k, rfl⟩ : ∃ k', k = k' + 1 := ⟨k - 1, by omega⟩
    have hs : F19.s1018 q (((pre.length : Int), (), (ao, a.length), (bo, bn), (a.length : Int), ()), ((List.replicate pre.length dd).map arr, rowa, rowb, ()), ()) =
        if x == dd then some (.inr (.inl ((⟨⟨[]⟩⟩, false, ()), (), ()))) else some (.inl ((((pre ++ [x]).length : Int), (), (ao, a.length), (bo, bn), (a.length : Int), ()), ((List.replicate (pre ++ [x]).length dd).map arr, rowa, rowb, ()), ())) := by
      show F19.go1018 q (pre.length : Int) (ao, a.length) (bo, bn) (a.length : Int) ((List.replicate pre.length dd).map arr) rowa rowb = _
      unfold F19.go1018
      have hwn : IntKind.i64.wrap ((pre.length : Int) + 1) = ((pre.length + 1 : Nat) : Int) := wadd1 _ (by show _ ≤ 140737488351232; omega)
      have hg : rowa.getD (ao + pre.length) ⟨⟨[]⟩⟩ = arr x := by
        have := ha.get (i := pre.length) (by simp only; omega)
        rw [this, ← hm]; simp
      have hl1 : (pre ++ [x]).length = pre.length + 1 := by simp
      have e2 : ((arr x).toList == (⟨⟨[46, 46]⟩⟩ : ByteArray).toList) = (x == dd) := tl_beq x [46, 46]
      have hap : (List.replicate pre.length dd).map arr ++ [⟨⟨[46, 46]⟩⟩] = (List.replicate (pre.length + 1) dd).map arr := by
        rw [List.replicate_succ', List.map_append]; rfl
      have hguard : (Nat.ble (((List.replicate pre.length dd).map arr ++ [(⟨⟨[46, 46]⟩⟩ : ByteArray)]).length * 16) 140737488355328 && Nat.ble ((List.replicate pre.length dd).map arr ++ [(⟨⟨[46, 46]⟩⟩ : ByteArray)]).length 9223372036854775807) = true :=
        guard16 _ (by rw [hap, List.length_map, List.length_replicate]; show _ ≤ 4294967296; omega)
      rw [ltD (by omega), dec0, Int.toNat_natCast, hg, hwn, hl1, e2, ← hap]
      cases x == dd
      · simp only [cond_true, cond_false, Bool.and_true]
        exact (congrArg (fun b => bif b then _ else _) hguard).trans rfl
      · rfl
    show _ = some (if (x == dd || post.any (· == dd)) = true then _ else _)
    by_cases hx : (x == dd) = true
    · rw [if_pos hx] at hs
      rw [loopN_inr hs, hx]; rfl
    · rw [if_neg hx] at hs
      rw [loopN_inl hs, F19_up a ao a.length bo bn rowa rowb ha hl post (pre ++ [x]) k q (by rw [← hm]; simp) (by simp only [List.length_cons] at hk; omega)]
      rw [Bool.eq_false_iff.2 hx]; rfl
theorem F20_strip : ∀ (a b : List (List UInt8)) (ao an bo bn : Nat) (rowa rowb : List ByteArray) (k q : Nat), Win rowa (ao, an) a → Win rowb (bo, bn) b → a.length < k →
    ∃ pa pb, loopN (F20.s60 q) k (((bo, bn), (ao, an), ()), (rowb, rowa, ()), ()) = some ((pb, pa, ()), (rowb, rowa, ()), ()) ∧ Win rowa pa (strip a b).1 ∧ Win rowb pb (strip a b).2
  | [], b, ao, an, bo, bn, rowa, rowb, k, q, ha, hb, hk => by
    obtain ⟨k, rfl⟩ : ∃ k', k = k' + 1 := ⟨k - 1, by omega⟩
    have hla := ha.len
    simp only [List.length_nil] at hla
    subst hla
    refine ⟨(ao, 0), (bo, bn), loopN_inr ?_, by rw [strip_nil]; exact ha, by rw [strip_nil]; exact hb⟩
    rfl
  | x :: a, [], ao, an, bo, bn, rowa, rowb, k, q, ha, hb, hk => by
    obtain ⟨k, rfl⟩ : ∃ k', k = k' + 1 := ⟨k - 1, by omega⟩
    have hla := ha.len
    have hlb := hb.len
    simp only [List.length_nil, List.length_cons] at hla hlb
    subst hla hlb
    refine ⟨(ao, a.length + 1), (bo, 0), loopN_inr ?_, by rw [strip_nil2]; exact ha, by rw [strip_nil2]; exact hb⟩
    show F20.go60 q (bo, 0) (ao, a.length + 1) rowb rowa = _
    unfold F20.go60
    rw [gtZ, gtZ, decide_eq_true (Nat.succ_pos _)]
    rfl
  | x :: a, y :: b, ao, an, bo, bn, rowa, rowb, k, q, ha, hb, hk => by
    obtain ⟨k, rfl⟩ : ∃ k', k = k' + 1 := ⟨k - 1, by omega⟩
    have hla := ha.len
    have hlb := hb.len
    simp only [List.length_nil, List.length_cons] at hla hlb
    subst hla hlb
    have ga : rowa.getD (ao + 0) ⟨⟨[]⟩⟩ = arr x := ha.get (i := 0) (Nat.succ_pos _)
    have gb : rowb.getD (bo + 0) ⟨⟨[]⟩⟩ = arr y := hb.get (i := 0) (Nat.succ_pos _)
    have hs : F20.s60 q (((bo, b.length + 1), (ao, a.length + 1), ()), (rowb, rowa, ()), ()) = if x == y then some (.inl (((bo + 1, b.length + 1 - 1), (ao + 1, a.length + 1 - 1), ()), (rowb, rowa, ()), ())) else some (.inr (((bo, b.length + 1), (ao, a.length + 1), ()), (rowb, rowa, ()), ())) := by
      show F20.go60 q (bo, b.length + 1) (ao, a.length + 1) rowb rowa = _
      unfold F20.go60
      have h1 : decide (0 < ((a.length + 1 : Nat) : Int)) = true := decide_eq_true (by omega)
      have h2 : decide (0 < ((b.length + 1 : Nat) : Int)) = true := decide_eq_true (by omega)
      have h3 : decide (1 ≤ ((a.length + 1 : Nat) : Int)) = true := decide_eq_true (by omega)
      have h4 : decide (1 ≤ ((b.length + 1 : Nat) : Int)) = true := decide_eq_true (by omega)
      have h5 : decide (((a.length + 1 : Nat) : Int) > 0) = true := decide_eq_true (by omega)
      have h6 : decide (((b.length + 1 : Nat) : Int) > 0) = true := decide_eq_true (by omega)
      simp only [h1, h2, h3, h4, h5, h6, ga, gb, tl_beq, cond_true]
      cases x == y <;> rfl
    rw [strip_cons]
    by_cases hxy : (x == y) = true
    · rw [if_pos hxy] at hs ⊢
      rw [loopN_inl hs]
      exact F20_strip a b (ao + 1) (a.length + 1 - 1) (bo + 1) (b.length + 1 - 1) rowa rowb k q ha.tail hb.tail (by simp only [List.length_cons] at hk; omega)
    · rw [if_neg hxy] at hs ⊢
      exact ⟨_, _, loopN_inr hs, ha, hb⟩
theorem F20_up (a : List (List UInt8)) (ao an bo bn : Nat) (rowa rowb : List ByteArray) (ha : Win rowa (ao, an) a) (hl : a.length + 1 ≤ lim) : ∀ (post pre : List (List UInt8)) (k q : Nat), pre ++ post = a → post.length < k →
    loopN (F20.s506 q) k (((pre.length : Int), (), (ao, an), (bo, bn), (an : Int), ()), ((List.replicate pre.length dd).map arr, rowa, rowb, ()), ()) =
      some (if post.any (· == dd) then .inl ((⟨⟨[]⟩⟩, false, ()), (), ()) else .inr (((bo, bn), (), ()), (rowb, (List.replicate a.length dd).map arr, ()), ()))
  | [], pre, k, q, hm, hk => by
    rw [List.append_nil] at hm
    subst hm
    have hla := ha.len
    simp only at hla
    subst hla
    obtain ⟨k, rfl⟩ : ∃ k', k = k' + 1 := ⟨k - 1, by omega⟩
    refine loopN_inr ?_
    show F20.go506 q (pre.length : Int) (ao, pre.length) (bo, bn) (pre.length : Int) ((List.replicate pre.length dd).map arr) rowa rowb = _
    unfold F20.go506
    rw [ltN (by omega)]; rfl
  | x :: post, pre, k, q, hm, hk => by
    have hl' : a.length + 1 ≤ 4294967296 := hl
    have hla := ha.len
    simp only at hla
    subst hla
    have hml : a.length = pre.length + 1 + post.length := by rw [← hm]; simp; omega
    obtain ⟨k, rfl⟩ : ∃ k', k = k' + 1 := ⟨k - 1, by omega⟩
    have hs : F20.s506 q (((pre.length : Int), (), (ao, a.length), (bo, bn), (a.length : Int), ()), ((List.replicate pre.length dd).map arr, rowa, rowb, ()), ()) =
        if x == dd then some (.inr (.inl ((⟨⟨[]⟩⟩, false, ()), (), ()))) else some (.inl ((((pre ++ [x]).length : Int), (), (ao, a.length), (bo, bn), (a.length : Int), ()), ((List.replicate (pre ++ [x]).length dd).map arr, rowa, rowb, ()), ())) := by
      show F20.go506 q (pre.length : Int) (ao, a.length) (bo, bn) (a.length : Int) ((List.replicate pre.length dd).map arr) rowa rowb = _
      unfold F20.go506
      have hwn : IntKind.i64.wrap ((pre.length : Int) + 1) = ((pre.length + 1 : Nat) : Int) := wadd1 _ (by show _ ≤ 140737488351232; omega)
      have hg : rowa.getD (ao + pre.length) ⟨⟨[]⟩⟩ = arr x := by
        have := ha.get (i := pre.length) (by simp only; omega)
        rw [this, ← hm]; simp
      have hl1 : (pre ++ [x]).length = pre.length + 1 := by simp
      have e2 : ((arr x).toList == (⟨⟨[46, 46]⟩⟩ : ByteArray).toList) = (x == dd) := tl_beq x [46, 46]
      have hap : (List.replicate pre.length dd).map arr ++ [⟨⟨[46, 46]⟩⟩] = (List.replicate (pre.length + 1) dd).map arr := by
        rw [List.replicate_succ', List.map_append]; rfl
      have hguard : (Nat.ble (((List.replicate pre.length dd).map arr ++ [(⟨⟨[46, 46]⟩⟩ : ByteArray)]).length * 16) 140737488355328 && Nat.ble ((List.replicate pre.length dd).map arr ++ [(⟨⟨[46, 46]⟩⟩ : ByteArray)]).length 9223372036854775807) = true :=
        guard16 _ (by rw [hap, List.length_map, List.length_replicate]; show _ ≤ 4294967296; omega)
      rw [ltD (by omega), dec0, Int.toNat_natCast, hg, hwn, hl1, e2, ← hap]
      cases x == dd
      · simp only [cond_true, cond_false, Bool.and_true]
        exact (congrArg (fun b => bif b then _ else _) hguard).trans rfl
      · rfl
    show _ = some (if (x == dd || post.any (· == dd)) = true then _ else _)
    by_cases hx : (x == dd) = true
    · rw [if_pos hx] at hs
      rw [loopN_inr hs, hx]; rfl
    · rw [if_neg hx] at hs
      rw [loopN_inl hs, F20_up a ao a.length bo bn rowa rowb ha hl post (pre ++ [x]) k q (by rw [← hm]; simp) (by simp only [List.length_cons] at hk; omega)]
      rw [Bool.eq_false_iff.2 hx]; rfl
/-- Rel by names -/
def relOf (a b : List (List UInt8)) : List UInt8 × Bool :=
  if (strip a b).1.any (· == dd) then ([], false) else (strL false false (List.replicate (strip a b).1.length dd ++ (strip a b).2), true)
def relL (s t : List UInt8) : List UInt8 × Bool := if absL s == absL t then relOf (cleanL s) (cleanL t) else ([], false)
abbrev mid : Nat := 268435456
theorem rel_tot (a b : List (List UInt8)) (ha : tot a ≤ mid) (hb : tot b ≤ mid) : tot (List.replicate (strip a b).1.length dd ++ (strip a b).2) ≤ lim := by
  have ha' : tot a ≤ 268435456 := ha
  have hb' : tot b ≤ 268435456 := hb
  have h := strip_len a b
  have hl := tot_len (strip a b).1
  rw [tot_append, tot_rep]
  show _ ≤ 4294967296; omega
theorem winAll (m : List (List UInt8)) : Win (m.map arr) (0, (m.map arr).length) m := by rw [List.length_map]; exact Win.new m
theorem F19_eq (k : Nat) (s t : List UInt8) (hs : s.length + 1 ≤ mid) (ht : t.length + 1 ≤ mid) (hk : 4294967296 < k) : F19.go k (arr s) (arr t) = some (.inl (((arr (relL s t).1, (relL s t).2, ()), ()), (), ())) := by
  have hs' : s.length + 1 ≤ 268435456 := hs
  have ht' : t.length + 1 ≤ 268435456 := ht
  have hcs := cleanL_tot s
  have hct := cleanL_tot t
  have hls := tot_len (cleanL s)
  have htot := rel_tot (cleanL s) (cleanL t) (Nat.le_trans hcs hs) (Nat.le_trans hct ht)
  have hstl := strip_len (cleanL s) (cleanL t)
  have hsl := tot_len (strip (cleanL s) (cleanL t)).1
  have htl := tot_len (List.replicate (strip (cleanL s) (cleanL t)).1.length dd ++ (strip (cleanL s) (cleanL t)).2)
  unfold F19.go relL
  rw [F34_eq k s (Nat.le_trans hs (by decide))]
  simp only [Option.bind_some]
  rw [F34_eq k t (Nat.le_trans ht (by decide))]
  simp only [Option.bind_some]
  cases habs : absL s == absL t
  · rfl
  · obtain ⟨pa, pb, he, hwa, hwb⟩ := F19_strip (cleanL s) (cleanL t) 0 _ 0 _ _ _ k k (winAll (cleanL s)) (winAll (cleanL t)) (by omega)
    have he' : F19.l_124 k _ = _ := he
    simp only [Bool.not_true, cond_false, if_true]
    rw [he']
    simp only [Option.bind_some]
    have hup := F19_up (strip (cleanL s) (cleanL t)).1 pa.1 pa.2 pb.1 pb.2 _ ((cleanL t).map arr) hwa (by show _ ≤ 4294967296; omega) (strip (cleanL s) (cleanL t)).1 [] k k rfl (by omega)
    have hup' : F19.l_1018 k (((0 : Int), (), (pa.1, pa.2), (pb.1, pb.2), ((pa.2 : Nat) : Int), ()), ([], (cleanL s).map arr, (cleanL t).map arr, ()), ()) = _ := hup
    rw [hup']
    unfold relOf
    cases hany : (strip (cleanL s) (cleanL t)).1.any (· == dd)
    · simp only [Option.bind_some, Bool.false_eq_true, if_false, Sum.elim_inr]
      have e : (List.replicate (strip (cleanL s) (cleanL t)).1.length dd).map arr ++ List.take pb.2 (List.drop pb.1 ((cleanL t).map arr)) = (List.replicate (strip (cleanL s) (cleanL t)).1.length dd ++ (strip (cleanL s) (cleanL t)).2).map arr := by
        rw [hwb.eq, List.map_append]
      rw [e, guard16 _ (by rw [List.length_map]; exact Nat.le_trans htl htot), F33_eq k false _ htot (Nat.lt_of_le_of_lt (Nat.le_trans htl htot) hk)]
      rfl
    · rfl
theorem F32_loop (m : List (List UInt8)) (ht : tot m ≤ lim) : ∀ (post pre : List (List UInt8)) (k q : Nat), pre ++ post = m → post.length < k →
    loopN (F32.s58 q) k (((pre.length : Int), arr (joinL pre), (), (m.length : Int), ()), (m.map arr, ()), ()) = some ((arr (joinL m), ()), (m.map arr, ()), ())
  | [], pre, k, q, hm, hk => by
    rw [List.append_nil] at hm
    subst hm
    obtain ⟨k, rfl⟩ : ∃ k', k = k' + 1 := ⟨k - 1, by omega⟩
    refine loopN_inr ?_
    show F32.go58 q (pre.length : Int) (arr (joinL pre)) (pre.length : Int) (pre.map arr) = _
    unfold F32.go58
    rw [ltN (by omega)]; rfl
  | x :: post, pre, k, q, hm, hk => by
    have ht' : tot m ≤ 4294967296 := ht
    have hml : m.length = pre.length + 1 + post.length := by rw [← hm]; simp; omega
    have htl := tot_len m
    have htp : tot pre + (x.length + 1 + tot post) = tot m := by rw [← hm, tot_append]; rfl
    have hjp := joinL_len pre
    obtain ⟨k, rfl⟩ : ∃ k', k = k' + 1 := ⟨k - 1, by omega⟩
    have hs : F32.s58 q (((pre.length : Int), arr (joinL pre), (), (m.length : Int), ()), (m.map arr, ()), ()) = some (.inl ((((pre ++ [x]).length : Int), arr (joinL (pre ++ [x])), (), (m.length : Int), ()), (m.map arr, ()), ())) := by
      show F32.go58 q (pre.length : Int) (arr (joinL pre)) (m.length : Int) (m.map arr) = _
      unfold F32.go58
      have hwn : IntKind.i64.wrap ((pre.length : Int) + 1) = ((pre.length + 1 : Nat) : Int) := wadd1 _ (by show _ ≤ 140737488351232; omega)
      have hg : (m.map arr).getD pre.length ⟨⟨[]⟩⟩ = arr x := by rw [map_getD, ← hm]; simp
      have hl1 : (pre ++ [x]).length = pre.length + 1 := by simp
      have hgt : decide ((pre.length : Int) > 0) = !pre.isEmpty := lenG pre
      rw [List.length_map, ltD (by omega), dec0, Int.toNat_natCast, hg, hwn, joinL_snoc, hl1, hgt, szI,
        decide_eq_true (show (arr (joinL pre)).size + 1 ≤ 9223372036854775807 by rw [arr_size]; omega),
        decide_eq_true (show (joinL pre).length + 1 + (arr x).size ≤ 9223372036854775807 by rw [arr_size]; omega),
        decide_eq_true (show (arr (joinL pre)).size + (arr x).size ≤ 9223372036854775807 by rw [arr_size, arr_size]; omega)]
      cases hp : pre.isEmpty
      · rfl
      · have : pre = [] := List.isEmpty_iff.1 hp
        subst this; rfl
    rw [loopN_inl hs]
    exact F32_loop m ht post (pre ++ [x]) k q (by rw [← hm]; simp) (by simp only [List.length_cons] at hk; omega)
theorem F32_eq (k : Nat) (m : List (List UInt8)) (ht : tot m ≤ lim) (hk : m.length < k) : F32.go k (m.map arr) = some ((arr (joinL m), ()), (m.map arr, ()), ()) := by
  have h := F32_loop m ht m [] k k rfl hk
  have h' : F32.l_58 k (((0 : Int), ⟨⟨[]⟩⟩, (), (m.length : Int), ()), (m.map arr, ()), ()) = _ := h
  unfold F32.go
  rw [List.length_map, h']; rfl
theorem ref_clean (k : Nat) (s : List UInt8) (hs : s.length + 1 ≤ mid) (hk : 4294967296 < k) : F29.go k (arr s) = some (((), ()), ((splitN [] s).map arr, ()), ()) ∧
    ∃ row p, F35.go k (absL s) ((splitN [] s).map arr) = some ((p, ()), ((splitN [] s).map arr, row, ()), ()) ∧ Win row p (cleanL s) := by
  have hs' : s.length + 1 ≤ 268435456 := hs
  have h2 := tot_splitN s []
  have h3 := tot_len (splitN [] s)
  simp only [List.length_nil] at h2
  exact ⟨F29_eq k s (Nat.le_trans hs (by decide)) (by omega), F35_eq k (absL s) (splitN [] s) (splitN_lim s (Nat.le_trans hs (by decide))) (by omega)⟩
theorem F20_eq (k : Nat) (s t : List UInt8) (hs : s.length + 1 ≤ mid) (ht : t.length + 1 ≤ mid) (hk : 4294967296 < k) : F20.go k (arr s) (arr t) = some (((arr (relL s t).1, (relL s t).2, ()), ()), (), ()) := by
  have hs' : s.length + 1 ≤ 268435456 := hs
  have ht' : t.length + 1 ≤ 268435456 := ht
  have hcs := cleanL_tot s
  have hct := cleanL_tot t
  have hls := tot_len (cleanL s)
  have htot := rel_tot (cleanL s) (cleanL t) (Nat.le_trans hcs hs) (Nat.le_trans hct ht)
  have hstl := strip_len (cleanL s) (cleanL t)
  have hsl := tot_len (strip (cleanL s) (cleanL t)).1
  have htl := tot_len (List.replicate (strip (cleanL s) (cleanL t)).1.length dd ++ (strip (cleanL s) (cleanL t)).2)
  obtain ⟨f1, rowa, qa, f2, hwa0⟩ := ref_clean k s hs hk
  obtain ⟨g1, rowb, qb, g2, hwb0⟩ := ref_clean k t ht hk
  unfold F20.go relL
  simp only [F30_eq, Option.bind_some]
  cases habs : absL s == absL t
  · rfl
  · obtain ⟨pa, pb, he, hwa, hwb⟩ := F20_strip (cleanL s) (cleanL t) qa.1 qa.2 qb.1 qb.2 _ _ k k hwa0 hwb0 (by omega)
    have he' : F20.l_60 k _ = _ := he
    simp only [Bool.not_true, cond_false, if_true, f1, f2, g1, g2, Option.bind_some]
    rw [he']
    simp only [Option.bind_some]
    have hup := F20_up (strip (cleanL s) (cleanL t)).1 pa.1 pa.2 pb.1 pb.2 _ rowb hwa (by show _ ≤ 4294967296; omega) (strip (cleanL s) (cleanL t)).1 [] k k rfl (by omega)
    have hup' : F20.l_506 k (((0 : Int), (), (pa.1, pa.2), (pb.1, pb.2), ((pa.2 : Nat) : Int), ()), ([], rowa, rowb, ()), ()) = _ := hup
    rw [hup']
    unfold relOf
    cases hany : (strip (cleanL s) (cleanL t)).1.any (· == dd)
    · simp only [Option.bind_some, Bool.false_eq_true, if_false, Sum.elim_inr]
      have e : (List.replicate (strip (cleanL s) (cleanL t)).1.length dd).map arr ++ List.take pb.2 (List.drop pb.1 rowb) = (List.replicate (strip (cleanL s) (cleanL t)).1.length dd ++ (strip (cleanL s) (cleanL t)).2).map arr := by
        rw [hwb.eq, List.map_append]
      rw [e, guard16 _ (by rw [List.length_map]; exact Nat.le_trans htl htot), List.length_map, lenZ]
      unfold strL
      cases hem : (List.replicate (strip (cleanL s) (cleanL t)).1.length dd ++ (strip (cleanL s) (cleanL t)).2).isEmpty
      · rw [F32_eq k _ htot (Nat.lt_of_le_of_lt (Nat.le_trans htl htot) hk)]
        simp
      · rfl
    · rfl
end Go.Proofs.Tryd.S

namespace Go.Proofs.Tryd.S
open Go Go.Ev
/-! Within -/
def preL : List (List UInt8) → List (List UInt8) → Bool
  | [], _ => true
  | _ :: _, [] => false
  | x :: d, y :: l => x == y && preL d l
theorem preL_nil (l : List (List UInt8)) : preL [] l = true := by unfold preL; rfl
def notUp (l : List (List UInt8)) : Bool := l.isEmpty || !(l.getD 0 [] == dd)
def withinL (s t : List UInt8) : Bool :=
  if absL s == absL t then (if (cleanL t).length < (cleanL s).length then false else if preL (cleanL s) (cleanL t) then (!(cleanL s).isEmpty || absL s || notUp (cleanL t)) else false) else false
theorem F21_loop (abs : Bool) (d l : List (List UInt8)) (hl : d.length ≤ l.length) (hd : d.length ≤ lim) : ∀ (pd pl pre prel : List (List UInt8)) (k q : Nat), pre ++ pd = d → prel ++ pl = l → pre.length = prel.length → pd.length < k →
    loopN (F21.s250 q) k (((pre.length : Int), (), (), abs, (d.length : Int), ()), (l.map arr, d.map arr, ()), ()) =
      some (if preL pd pl then .inr (((), abs, (), ()), (l.map arr, d.map arr, ()), ()) else .inl ((false, ()), (), ()))
  | [], pl, pre, prel, k, q, hm, hm2, hp, hk => by
    rw [List.append_nil] at hm
    subst hm
    obtain ⟨k, rfl⟩ : ∃ k', k = k' + 1 := ⟨k - 1, by omega⟩
    rw [preL_nil, if_pos rfl]
    refine loopN_inr ?_
    show F21.go250 q (pre.length : Int) abs (pre.length : Int) (l.map arr) (pre.map arr) = _
    unfold F21.go250
    rw [ltN (by omega)]; rfl
  | x :: pd, [], pre, prel, k, q, hm, hm2, hp, hk => by
    exfalso
    have h1 : d.length = pre.length + 1 + pd.length := by rw [← hm]; simp; omega
    have h2 : l.length = prel.length := by rw [← hm2]; simp
    omega
  | x :: pd, y :: pl, pre, prel, k, q, hm, hm2, hp, hk => by
    have hd' : d.length ≤ 4294967296 := hd
    have h1 : d.length = pre.length + 1 + pd.length := by rw [← hm]; simp; omega
    have h2 : l.length = prel.length + 1 + pl.length := by rw [← hm2]; simp; omega
    obtain ⟨k, rfl⟩ : ∃ k', k = k' + 1 := ⟨k - 1, by omega⟩
    have hs : F21.s250 q (((pre.length : Int), (), (), abs, (d.length : Int), ()), (l.map arr, d.map arr, ()), ()) =
        if x == y then some (.inl ((((pre ++ [x]).length : Int), (), (), abs, (d.length : Int), ()), (l.map arr, d.map arr, ()), ())) else some (.inr (.inl ((false, ()), (), ()))) := by
      show F21.go250 q (pre.length : Int) abs (d.length : Int) (l.map arr) (d.map arr) = _
      unfold F21.go250
      have hwn : IntKind.i64.wrap ((pre.length : Int) + 1) = ((pre.length + 1 : Nat) : Int) := wadd1 _ (by show _ ≤ 140737488351232; omega)
      have hg : (d.map arr).getD pre.length ⟨⟨[]⟩⟩ = arr x := by rw [map_getD, ← hm]; simp
      have hg2 : (l.map arr).getD pre.length ⟨⟨[]⟩⟩ = arr y := by rw [map_getD, ← hm2, hp]; simp
      have hl1 : (pre ++ [x]).length = pre.length + 1 := by simp
      rw [List.length_map, List.length_map, ltD (show pre.length < d.length by omega), ltD (show pre.length < l.length by omega), dec0, Int.toNat_natCast, hg, hg2, hwn, hl1, tl_beq]
      cases x == y <;> rfl
    have e : preL (x :: pd) (y :: pl) = (x == y && preL pd pl) := rfl
    rw [e]
    by_cases hxy : (x == y) = true
    · rw [if_pos hxy] at hs
      rw [loopN_inl hs, hxy, Bool.true_and]
      exact F21_loop abs d l hl hd pd pl (pre ++ [x]) (prel ++ [y]) k q (by rw [← hm]; simp) (by rw [← hm2]; simp) (by simp; exact hp) (by simp only [List.length_cons] at hk; omega)
    · rw [if_neg hxy] at hs
      rw [loopN_inr hs, Bool.eq_false_iff.2 hxy]; rfl
theorem F21_eq (k : Nat) (s t : List UInt8) (hs : s.length + 1 ≤ mid) (ht : t.length + 1 ≤ mid) (hk : 4294967296 < k) : F21.go k (arr s) (arr t) = some ((withinL s t, ()), (), ()) := by
  have hs' : s.length + 1 ≤ 268435456 := hs
  have ht' : t.length + 1 ≤ 268435456 := ht
  have hcs := cleanL_tot s
  have hct := cleanL_tot t
  have hls := tot_len (cleanL s)
  have hlt := tot_len (cleanL t)
  unfold F21.go withinL
  rw [F34_eq k s (Nat.le_trans hs (by decide))]
  simp only [Option.bind_some]
  rw [F34_eq k t (Nat.le_trans ht (by decide))]
  simp only [Option.bind_some]
  cases habs : absL s == absL t
  · rfl
  · simp only [Bool.not_true, cond_false, if_true, List.length_map]
    by_cases hlen : (cleanL t).length < (cleanL s).length
    · rw [ltD hlen, if_pos hlen]; rfl
    · rw [ltN hlen, if_neg hlen]
      have h := F21_loop (absL s) (cleanL s) (cleanL t) (by omega) (by show _ ≤ 4294967296; omega) (cleanL s) (cleanL t) [] [] k k rfl rfl rfl (by omega)
      have h' : F21.l_250 k (((0 : Int), (), (), absL s, ((cleanL s).length : Int), ()), ((cleanL t).map arr, (cleanL s).map arr, ()), ()) = _ := h
      simp only [cond_false]
      rw [h']
      cases hp : preL (cleanL s) (cleanL t)
      · rfl
      · simp only [if_true, Option.bind_some, Sum.elim_inr]
        rw [List.length_map, List.length_map, lenG, lenZ]
        unfold notUp
        cases hes : (cleanL s).isEmpty
        · rfl
        · cases absL s
          · cases hct' : cleanL t with
            | nil => rfl
            | cons y l =>
              have hd0 : decide ((0 : Int) < (((y :: l).length : Nat) : Int)) = true := decide_eq_true (by simp)
              rw [hd0]
              have e2 : ((arr y).toList == (⟨⟨[46, 46]⟩⟩ : ByteArray).toList) = (y == dd) := tl_beq y [46, 46]
              show (bif false then _ else bif false then _ else bif true then some ((!((arr y).toList == (⟨⟨[46, 46]⟩⟩ : ByteArray).toList), ()), (), ()) else none) = _
              rw [e2]
              simp
          · rfl
/-! in an absolute path no name leads up -/
theorem cstep_noup (out : List (List UInt8)) (n : List UInt8) (h : ∀ x ∈ out, (x == dd) = false) : ∀ x ∈ cstep true out n, (x == dd) = false := by
  unfold cstep
  split
  · exact h
  · split
    · rename_i h2
      intro x hx
      rcases List.mem_append.1 hx with hx | hx
      · exact h x hx
      · have : x = n := by simpa using hx
        subst this
        simpa using h2
    · split
      · intro x hx; exact h x (List.mem_of_mem_take hx)
      · exact h
theorem fold_noup : ∀ (l out : List (List UInt8)), (∀ x ∈ out, (x == dd) = false) → ∀ x ∈ l.foldl (cstep true) out, (x == dd) = false
  | [], out, h => h
  | a :: r, out, h => fold_noup r (cstep true out a) (cstep_noup out a h)
theorem clean_notUp (s : List UInt8) (h : absL s = true) : notUp (cleanL s) = true := by
  have hn : ∀ x ∈ cleanL s, (x == dd) = false := by
    unfold cleanL
    rw [h]
    exact fold_noup _ [] (fun x hx => by cases hx)
  unfold notUp
  cases hc : cleanL s with
  | nil => rfl
  | cons y l =>
    have := hn y (by rw [hc]; simp)
    show (false || !(y == dd)) = true
    rw [this]; rfl
theorem F22_loop (d l : List (List UInt8)) (rowd rowl : List ByteArray) (od ol nl : Nat) (hwd : Win rowd (od, d.length) d) (hwl : Win rowl (ol, nl) l) (hl : d.length ≤ l.length) (hd : d.length ≤ lim) : ∀ (pd pl pre prel : List (List UInt8)) (k q : Nat), pre ++ pd = d → prel ++ pl = l → pre.length = prel.length → pd.length < k →
    loopN (F22.s506 q) k (((pre.length : Int), (ol, nl), (od, d.length), (d.length : Int), ()), (rowl, rowd, ()), ()) =
      some (if preL pd pl then .inr ((), (), ()) else .inl ((false, ()), (), ()))
  | [], pl, pre, prel, k, q, hm, hm2, hp, hk => by
    rw [List.append_nil] at hm
    subst hm
    obtain ⟨k, rfl⟩ : ∃ k', k = k' + 1 := ⟨k - 1, by omega⟩
    rw [preL_nil, if_pos rfl]
    refine loopN_inr ?_
    show F22.go506 q (pre.length : Int) (ol, nl) (od, pre.length) (pre.length : Int) rowl rowd = _
    unfold F22.go506
    rw [ltN (by omega)]; rfl
  | x :: pd, [], pre, prel, k, q, hm, hm2, hp, hk => by
    exfalso
    have h1 : d.length = pre.length + 1 + pd.length := by rw [← hm]; simp; omega
    have h2 : l.length = prel.length := by rw [← hm2]; simp
    omega
  | x :: pd, y :: pl, pre, prel, k, q, hm, hm2, hp, hk => by
    have hd' : d.length ≤ 4294967296 := hd
    have h1 : d.length = pre.length + 1 + pd.length := by rw [← hm]; simp; omega
    have h2 : l.length = prel.length + 1 + pl.length := by rw [← hm2]; simp; omega
    have hnl := hwl.len
    simp only at hnl
    obtain ⟨k, rfl⟩ : ∃ k', k = k' + 1 := ⟨k - 1, by omega⟩
    have hs : F22.s506 q (((pre.length : Int), (ol, nl), (od, d.length), (d.length : Int), ()), (rowl, rowd, ()), ()) =
        if x == y then some (.inl ((((pre ++ [x]).length : Int), (ol, nl), (od, d.length), (d.length : Int), ()), (rowl, rowd, ()), ())) else some (.inr (.inl ((false, ()), (), ()))) := by
      show F22.go506 q (pre.length : Int) (ol, nl) (od, d.length) (d.length : Int) rowl rowd = _
      unfold F22.go506
      have hwn : IntKind.i64.wrap ((pre.length : Int) + 1) = ((pre.length + 1 : Nat) : Int) := wadd1 _ (by show _ ≤ 140737488351232; omega)
      have hg : rowd.getD (od + pre.length) ⟨⟨[]⟩⟩ = arr x := by rw [hwd.get (i := pre.length) (by simp only; omega), ← hm]; simp
      have hg2 : rowl.getD (ol + pre.length) ⟨⟨[]⟩⟩ = arr y := by rw [hwl.get (i := pre.length) (by simp only; omega), ← hm2, hp]; simp
      have hl1 : (pre ++ [x]).length = pre.length + 1 := by simp
      rw [ltD (show pre.length < d.length by omega), ltD (show pre.length < nl by omega), dec0, Int.toNat_natCast, hg, hg2, hwn, hl1, tl_beq]
      cases x == y <;> rfl
    have e : preL (x :: pd) (y :: pl) = (x == y && preL pd pl) := rfl
    rw [e]
    by_cases hxy : (x == y) = true
    · rw [if_pos hxy] at hs
      rw [loopN_inl hs, hxy, Bool.true_and]
      exact F22_loop d l rowd rowl od ol nl hwd hwl hl hd pd pl (pre ++ [x]) (prel ++ [y]) k q (by rw [← hm]; simp) (by rw [← hm2]; simp) (by simp; exact hp) (by simp only [List.length_cons] at hk; omega)
    · rw [if_neg hxy] at hs
      rw [loopN_inr hs, Bool.eq_false_iff.2 hxy]; rfl
theorem F22_eq (k : Nat) (s t : List UInt8) (hs : s.length + 1 ≤ mid) (ht : t.length + 1 ≤ mid) (hk : 4294967296 < k) : F22.go k (arr s) (arr t) = some ((withinL s t, ()), (), ()) := by
  have hs' : s.length + 1 ≤ 268435456 := hs
  have ht' : t.length + 1 ≤ 268435456 := ht
  have hcs := cleanL_tot s
  have hct := cleanL_tot t
  have hls := tot_len (cleanL s)
  have hlt := tot_len (cleanL t)
  obtain ⟨f1, rowa, qa, f2, hwa⟩ := ref_clean k s hs hk
  obtain ⟨g1, rowb, qb, g2, hwb⟩ := ref_clean k t ht hk
  have ha := hwa.len
  have hb := hwb.len
  unfold F22.go withinL
  simp only [F30_eq, Option.bind_some]
  cases habs : absL s == absL t
  · rfl
  · simp only [Bool.not_true, cond_false, if_true, f1, f2, g1, g2, Option.bind_some]
    rw [ha, hb, lenZ, lenZ]
    cases hes : (cleanL s).isEmpty
    · simp only [cond_false]
      by_cases hlen : (cleanL t).length < (cleanL s).length
      · rw [ltD hlen, if_pos hlen]; rfl
      · rw [ltN hlen, if_neg hlen]
        have h := F22_loop (cleanL s) (cleanL t) rowa rowb qa.1 qb.1 (cleanL t).length (by rw [← ha]; exact hwa) (by rw [← hb]; exact hwb) (by omega) (by show _ ≤ 4294967296; omega) (cleanL s) (cleanL t) [] [] k k rfl rfl rfl (by omega)
        have h' : F22.l_506 k (((0 : Int), (qb.1, (cleanL t).length), (qa.1, (cleanL s).length), ((cleanL s).length : Int), ()), (rowb, rowa, ()), ()) = _ := h
        unfold F22.go63
        simp only [cond_false]
        rw [h']
        cases preL (cleanL s) (cleanL t) <;> rfl
    · have hn : cleanL s = [] := List.isEmpty_iff.1 hes
      have hlen : ¬ (cleanL t).length < (cleanL s).length := by rw [hn]; simp
      rw [if_neg hlen, hn, preL_nil]
      have hup : (absL s || notUp (cleanL t)) = notUp (cleanL t) := by
        cases ha2 : absL s
        · rfl
        · have : absL t = true := by rw [ha2] at habs; exact (eq_of_beq habs).symm
          rw [clean_notUp t this]; rfl
      simp only [List.isEmpty_nil, Bool.not_true, Bool.false_or, if_true, cond_true, hup]
      unfold notUp
      cases hct' : cleanL t with
      | nil => rfl
      | cons y l =>
        have hd0 : decide ((0 : Int) < (((y :: l).length : Nat) : Int)) = true := decide_eq_true (by simp)
        have hg : rowb.getD (qb.1 + 0) ⟨⟨[]⟩⟩ = arr y := by
          have := hwb.get (i := 0) (by rw [hb, hct']; simp)
          rw [this, hct']; rfl
        have e2 : ((arr y).toList == (⟨⟨[46, 46]⟩⟩ : ByteArray).toList) = (y == dd) := tl_beq y [46, 46]
        simp only [hd0, hg, e2, cond_true, cond_false, List.isEmpty_cons, Bool.false_or]
        rfl
/-- Rel and Within are the document's -/
theorem pathRelates (k : Nat) (s t : List UInt8) (hs : s.length + 1 ≤ mid) (ht : t.length + 1 ≤ mid) (hk : 4294967296 < k) : F5.go k (arr s) (arr t) = some (Sum.inl ((true, ()), (), ())) := by
  unfold F5.go
  rw [F19_eq k s t hs ht hk]
  simp only [Option.bind_some, Sum.elim_inl]
  rw [F20_eq k s t hs ht hk]
  simp only [Option.bind_some]
  rw [beq_self_eq_true, beq_self_eq_true, F21_eq k s t hs ht hk]
  simp only [Option.bind_some, cond_true]
  rw [F22_eq k s t hs ht hk]
  simp only [Option.bind_some]
  rw [beq_self_eq_true, lives k (by omega)]; rfl
theorem pathRelatesP (a b : ByteArray) (ha : a.size ≤ 1048576) (hb : b.size ≤ 1048576) : ∃ k, F5.go k a b = some (Sum.inl ((true, ()), (), ())) :=
  ⟨4294967297, pathRelates 4294967297 a.data.toList b.data.toList (Nat.le_trans (Nat.succ_le_succ ha) (by decide)) (Nat.le_trans (Nat.succ_le_succ hb) (by decide)) (by decide)⟩
end Go.Proofs.Tryd.S

namespace Go.Proofs.Tryd.S
open Go Go.Ev
theorem J1_sum (sep : List UInt8) (m : List (List UInt8)) (ht : tot m ≤ lim) (c0 : Nat) (hc0 : c0 ≤ lim) : ∀ (post pre : List (List UInt8)) (c : Nat) (k q : Nat), pre ++ post = m → c ≤ c0 + tot pre → post.length < k →
    loopN (F31_1.s250 q) k (((pre.length : Int), (c : Int), m.map arr, arr sep, m.map arr, (m.length : Int), ()), (), ()) = some (.inr ((arr sep, m.map arr, ((c + tot post - post.length : Nat) : Int), ()), (), ()))
  | [], pre, c, k, q, hm, hc, hk => by
    rw [List.append_nil] at hm
    subst hm
    obtain ⟨k, rfl⟩ : ∃ k', k = k' + 1 := ⟨k - 1, by omega⟩
    refine loopN_inr ?_
    show F31_1.go250 q (pre.length : Int) (c : Int) (pre.map arr) (arr sep) (pre.map arr) (pre.length : Int) = _
    unfold F31_1.go250
    rw [ltN (by omega)]; rfl
  | x :: post, pre, c, k, q, hm, hc, hk => by
    have ht' : tot m ≤ 4294967296 := ht
    have hc0' : c0 ≤ 4294967296 := hc0
    have hml : m.length = pre.length + 1 + post.length := by rw [← hm]; simp; omega
    have htl := tot_len m
    have htp : tot pre + (x.length + 1 + tot post) = tot m := by rw [← hm, tot_append]; rfl
    have hpl := tot_len post
    obtain ⟨k, rfl⟩ : ∃ k', k = k' + 1 := ⟨k - 1, by omega⟩
    have hs : F31_1.s250 q (((pre.length : Int), (c : Int), m.map arr, arr sep, m.map arr, (m.length : Int), ()), (), ()) = some (.inl ((((pre ++ [x]).length : Int), ((c + x.length : Nat) : Int), m.map arr, arr sep, m.map arr, (m.length : Int), ()), (), ())) := by
      show F31_1.go250 q (pre.length : Int) (c : Int) (m.map arr) (arr sep) (m.map arr) (m.length : Int) = _
      unfold F31_1.go250
      have hwn : IntKind.i64.wrap ((pre.length : Int) + 1) = ((pre.length + 1 : Nat) : Int) := wadd1 _ (by show _ ≤ 140737488351232; omega)
      have hg : (m.map arr).getD pre.length ⟨⟨[]⟩⟩ = arr x := by rw [map_getD, ← hm]; simp
      have hl1 : (pre ++ [x]).length = pre.length + 1 := by simp
      have hw1 : IntKind.i64.wrap (9223372036854775807 - (c : Int)) = 9223372036854775807 - (c : Int) := by rw [wrap_id (by omega) (by omega)]
      have hw2 : IntKind.i64.wrap ((c : Int) + (x.length : Int)) = ((c + x.length : Nat) : Int) := by rw [wrap_id (by omega) (by omega)]; omega
      rw [List.length_map, ltD (by omega), dec0, Int.toNat_natCast, hg, hwn, arr_size, hw1, hw2, hl1, decide_eq_false (by omega)]
      rfl
    rw [loopN_inl hs, J1_sum sep m ht c0 hc0 post (pre ++ [x]) (c + x.length) k q (by rw [← hm]; simp) (by rw [tot_append]; show c + x.length ≤ c0 + (tot pre + (x.length + 1 + 0)); omega) (by simp only [List.length_cons] at hk; omega)]
    have : c + x.length + tot post - post.length = c + tot (x :: post) - (x :: post).length := by
      show _ = c + (x.length + 1 + tot post) - (post.length + 1); omega
    rw [this]
theorem J1_write (a0 : List UInt8) (m : List (List UInt8)) (ht : tot (a0 :: m) ≤ lim) : ∀ (post pre : List (List UInt8)) (k q : Nat), pre ++ post = m → post.length < k →
    loopN (F31_1.s4090 q) k (((pre.length : Int), (), arr [47], m.map arr, (m.length : Int), ()), (((), (), ()), ints (joinL (a0 :: pre)), ()), ()) =
      some (((), ()), (((), (), ()), ints (joinL (a0 :: m)), ()), ())
  | [], pre, k, q, hm, hk => by
    rw [List.append_nil] at hm
    subst hm
    obtain ⟨k, rfl⟩ : ∃ k', k = k' + 1 := ⟨k - 1, by omega⟩
    refine loopN_inr ?_
    show F31_1.go4090 q (pre.length : Int) (arr [47]) (pre.map arr) (pre.length : Int) (ints (joinL (a0 :: pre))) = _
    unfold F31_1.go4090
    rw [ltN (by omega)]; rfl
  | x :: post, pre, k, q, hm, hk => by
    have ht' : a0.length + 1 + tot m ≤ 4294967296 := ht
    have hml : m.length = pre.length + 1 + post.length := by rw [← hm]; simp; omega
    have htl := tot_len m
    have htp : tot pre + (x.length + 1 + tot post) = tot m := by rw [← hm, tot_append]; rfl
    have hjl : (joinL (a0 :: pre)).length = a0.length + tot pre := by show (a0 ++ joinT pre).length = _; rw [List.length_append, joinT_len]
    obtain ⟨k, rfl⟩ : ∃ k', k = k' + 1 := ⟨k - 1, by omega⟩
    have hs : F31_1.s4090 q (((pre.length : Int), (), arr [47], m.map arr, (m.length : Int), ()), (((), (), ()), ints (joinL (a0 :: pre)), ()), ()) =
        some (.inl ((((pre ++ [x]).length : Int), (), arr [47], m.map arr, (m.length : Int), ()), (((), (), ()), ints (joinL (a0 :: (pre ++ [x]))), ()), ())) := by
      show F31_1.go4090 q (pre.length : Int) (arr [47]) (m.map arr) (m.length : Int) (ints (joinL (a0 :: pre))) = _
      unfold F31_1.go4090
      have hwn : IntKind.i64.wrap ((pre.length : Int) + 1) = ((pre.length + 1 : Nat) : Int) := wadd1 _ (by show _ ≤ 140737488351232; omega)
      have hg : (m.map arr).getD pre.length ⟨⟨[]⟩⟩ = arr x := by
        rw [map_getD, ← hm]; simp
      have hl1 : (pre ++ [x]).length = pre.length + 1 := by simp
      have hj2 : joinL (a0 :: (pre ++ [x])) = joinL (a0 :: pre) ++ [47] ++ x := joinL_snoc (a0 :: pre) x
      rw [List.length_map, ltD (by omega), dec0, Int.toNat_natCast, hg, hwn, hl1, hj2, F45_eq q (joinL (a0 :: pre)) [47] (by rw [hjl]; show a0.length + tot pre + 1 ≤ 4294967296; omega)]
      simp only [Option.bind_some, cond_true, Bool.and_true]
      rw [F45_eq q (joinL (a0 :: pre) ++ [47]) x (by rw [List.length_append, hjl]; show a0.length + tot pre + 1 + x.length ≤ 4294967296; omega)]
      rfl
    rw [loopN_inl hs]
    exact J1_write a0 m ht post (pre ++ [x]) k q (by rw [← hm]; simp) (by simp only [List.length_cons] at hk; omega)
theorem J1_31 (k : Nat) (a0 a1 : List UInt8) (m : List (List UInt8)) (ht : tot (a0 :: a1 :: m) ≤ lim) (hk : m.length + 2 < k) :
    F31_1.go31 k (((a1 :: m).length : Nat) : Int) (arr [47]) ((a0 :: a1 :: m).map arr) = some (.inr ((arr (joinL (a0 :: a1 :: m)), ()), (), ())) := by
  have ht' : a0.length + 1 + (a1.length + 1 + tot m) ≤ 4294967296 := ht
  have htl := tot_len m
  unfold F31_1.go31
  rw [List.length_map]
  have h1 := J1_sum [47] (a0 :: a1 :: m) ht (a1 :: m).length (by show m.length + 1 ≤ 4294967296; omega) (a0 :: a1 :: m) [] (a1 :: m).length k k rfl (by simp [tot]) (by simpa using hk)
  have e1 : (a1 :: m).length + tot (a0 :: a1 :: m) - (a0 :: a1 :: m).length = (joinL (a0 :: a1 :: m)).length := by
    show (m.length + 1) + (a0.length + 1 + (a1.length + 1 + tot m)) - (m.length + 1 + 1) = (a0 ++ joinT (a1 :: m)).length
    rw [List.length_append, joinT_len]
    show _ = a0.length + (a1.length + 1 + tot m); omega
  rw [e1] at h1
  have h1' : F31_1.l_250 k (((0 : Int), (((a1 :: m).length : Nat) : Int), (a0 :: a1 :: m).map arr, arr [47], (a0 :: a1 :: m).map arr, (((a0 :: a1 :: m).length : Nat) : Int), ()), (), ()) = _ := h1
  rw [h1']
  simp only [Option.bind_some, Sum.elim_inr]
  have hjl : (joinL (a0 :: a1 :: m)).length = a0.length + (a1.length + 1 + tot m) := by
    show (a0 ++ joinT (a1 :: m)).length = _; rw [List.length_append, joinT_len]; rfl
  have hG : F44.go k (((joinL (a0 :: a1 :: m)).length : Nat) : Int) = some (.inr (((), ()), (((), (), ()), [], ()), ())) := by
    unfold F44.go
    rw [decide_eq_false (show ¬ ((((joinL (a0 :: a1 :: m)).length : Nat) : Int) < 0) by omega), decide_eq_true (show (0 : Int) < (((joinL (a0 :: a1 :: m)).length : Nat) : Int) by rw [hjl]; omega),
      decide_eq_true (show (((joinL (a0 :: a1 :: m)).length : Nat) : Int) ≤ 281474976710656 by rw [hjl]; omega)]
    rfl
  rw [hG]
  simp only [Option.bind_some, Sum.elim_inr]
  have hW0 : F45.go k (((a0 :: a1 :: m).map arr).getD 0 ⟨⟨[]⟩⟩) [] = some ((((a0.length : Int), (), ()), ()), (((), (), ()), ints (joinL [a0]), ()), ()) := by
    have := F45_eq k [] a0 (by show 0 + a0.length ≤ 4294967296; omega)
    show F45.go k (arr a0) (ints []) = _
    rw [this]
    show some (((((a0.length : Int), (), ()), ()), (((), (), ()), ints ([] ++ a0), ()), ())) = some (((((a0.length : Int), (), ()), ()), (((), (), ()), ints (a0 ++ []), ()), ()))
    rw [List.append_nil]; rfl
  have hd1 : decide (0 < (((((a0 :: a1 :: m).map arr).length : Nat) : Int))) = true := decide_eq_true (by rw [List.length_map]; simp; omega)
  have hd2 : decide (1 ≤ (((((a0 :: a1 :: m).map arr).length : Nat) : Int))) = true := decide_eq_true (by rw [List.length_map]; simp; omega)
  have hl : List.drop 1 ((a0 :: a1 :: m).map arr) = (a1 :: m).map arr := rfl
  have hloop := J1_write a0 (a1 :: m) ht (a1 :: m) [] k k rfl (by simp; omega)
  have hd1' : decide (0 < (((a0 :: a1 :: m).length : Nat) : Int)) = true := decide_eq_true (by simp; omega)
  have hloop' : F31_1.l_4090 k (((0 : Int), (), arr [47], (a1 :: m).map arr, (((a1 :: m).length : Nat) : Int), ()), (((), (), ()), ints (joinL [a0]), ()), ()) = _ := hloop
  simp only [hd1, hd1', cond_true, hW0, Option.bind_some, hl, hd2]
  rw [show ((((a1 :: m).map arr).length : Nat) : Int) = (((a1 :: m).length : Nat) : Int) by rw [List.length_map], hloop']
  simp only [Option.bind_some, cond_true]
  rw [Nat.ble_eq_true_of_le (by rw [ints_len, hjl]; omega), strOf_ints]
  rfl
theorem J1_eq (k : Nat) (m : List (List UInt8)) (ht : tot m ≤ lim) (hk : m.length < k) :
    F31_1.go k (m.map arr) (arr [47]) = some (.inl ((arr (joinL m), ()), (), ())) := by
  match m, ht, hk with
  | [], _, _ => rfl
  | [a], _, _ =>
    show some (Sum.inl ((arr a, ()), (), ())) = some (Sum.inl ((arr (a ++ []), ()), (), ()))
    rw [List.append_nil]
  | a0 :: a1 :: m, ht, hk =>
    have ht' : a0.length + 1 + (a1.length + 1 + tot m) ≤ 4294967296 := ht
    have htl := tot_len m
    unfold F31_1.go
    rw [List.length_map]
    have hl : (a0 :: a1 :: m).length = m.length + 2 := rfl
    have h1 : ((((a0 :: a1 :: m).length : Nat) : Int) == 0) = false := by rw [hl]; simp; omega
    have h2 : ((((a0 :: a1 :: m).length : Nat) : Int) == 1) = false := by rw [hl]; simp; omega
    have h3 : IntKind.i64.wrap ((((a0 :: a1 :: m).length : Nat) : Int) - 1) = (((a1 :: m).length : Nat) : Int) := by
      rw [hl, wrap_id (by omega) (by omega)]; show _ = (((m.length + 1 : Nat)) : Int); omega
    have h4 : ((((a1 :: m).length : Nat) : Int) == 0) = false := by simp; omega
    have h5 : (2 : Int) ≤ Int.tdiv 9223372036854775807 (((a1 :: m).length : Nat) : Int) := by
      rw [Int.tdiv_eq_ediv_of_nonneg (by omega)]
      exact (Int.le_ediv_iff_mul_le (by show (0 : Int) < ((m.length + 1 : Nat) : Int); omega)).2 (by show (2 : Int) * ((m.length + 1 : Nat) : Int) ≤ _; omega)
    have h5b : Int.tdiv 9223372036854775807 (((a1 :: m).length : Nat) : Int) ≤ 9223372036854775807 := by
      rw [Int.tdiv_eq_ediv_of_nonneg (by omega)]
      exact Int.ediv_le_self _ (by omega)
    have h6 : IntKind.i64.wrap (Int.tdiv 9223372036854775807 (((a1 :: m).length : Nat) : Int)) = Int.tdiv 9223372036854775807 (((a1 :: m).length : Nat) : Int) := by rw [wrap_id (by omega) (by omega)]
    have h7 : IntKind.i64.wrap (0 + IntKind.i64.wrap (((arr [47]).size : Int) * (((a1 :: m).length : Nat) : Int))) = (((a1 :: m).length : Nat) : Int) := by
      have e : (((arr [47]).size : Int) * (((a1 :: m).length : Nat) : Int)) = (((a1 :: m).length : Nat) : Int) := by show (1 : Int) * _ = _; omega
      have hle : (((a1 :: m).length : Nat) : Int) ≤ 4294967296 := by show ((m.length + 1 : Nat) : Int) ≤ _; omega
      have e2 : IntKind.i64.wrap (((a1 :: m).length : Nat) : Int) = (((a1 :: m).length : Nat) : Int) := by rw [wrap_id (by omega) (by omega)]
      rw [e, e2, Int.zero_add, e2]
    rw [h1, h2, h3, h4, h6, h7]
    have h8 : decide (((arr [47]).size : Int) > 0) = true := by decide
    have h9 : decide (((arr [47]).size : Int) ≥ Int.tdiv 9223372036854775807 (((a1 :: m).length : Nat) : Int)) = false := decide_eq_false (by show ¬ ((1 : Int) ≥ _); omega)
    rw [h8, h9]
    simp only [cond_true, cond_false]
    rw [J1_31 k a0 a1 m ht (by simpa using hk)]
    rfl
theorem S1_eq (k : Nat) (abs slash : Bool) (m : List (List UInt8)) (ht : tot m ≤ lim) (hk : m.length < k) :
    F11_1.go k abs (m.map arr) slash = some (.inl ((arr (strL abs slash m), ()), (), ())) := by
  have ht' : tot m ≤ 4294967296 := ht
  have hj := joinL_len m
  unfold F11_1.go strL
  show Option.bind (F31_1.go k (m.map arr) (arr [47])) _ = _
  rw [J1_eq k m ht hk]
  simp only [Option.bind_some, Sum.elim_inl]
  rw [List.length_map, lenZ, lenG, szP, decide_eq_true (show 1 + (arr (joinL m)).size ≤ 9223372036854775807 by rw [arr_size]; omega), decide_eq_true (show (arr (joinL m)).size + 1 ≤ 9223372036854775807 by rw [arr_size]; omega),
    decide_eq_true (show 1 + (joinL m).length + 1 ≤ 9223372036854775807 by omega)]
  cases hm : m.isEmpty
  · cases abs <;> cases slash <;> simp [arr]
  · cases abs <;> cases slash <;> simp [arr]
theorem J2_loop (m : List (List UInt8)) (ht : tot m ≤ lim) : ∀ (post pre : List (List UInt8)) (k q : Nat), pre ++ post = m → post.length < k →
    loopN (F32_2.s58 q) k (((pre.length : Int), arr (joinL pre), m.map arr, (m.length : Int), ()), (), ()) = some ((arr (joinL m), ()), (), ())
  | [], pre, k, q, hm, hk => by
    rw [List.append_nil] at hm
    subst hm
    obtain ⟨k, rfl⟩ : ∃ k', k = k' + 1 := ⟨k - 1, by omega⟩
    refine loopN_inr ?_
    show F32_2.go58 q (pre.length : Int) (arr (joinL pre)) (pre.map arr) (pre.length : Int) = _
    unfold F32_2.go58
    rw [ltN (by omega)]; rfl
  | x :: post, pre, k, q, hm, hk => by
    have ht' : tot m ≤ 4294967296 := ht
    have hml : m.length = pre.length + 1 + post.length := by rw [← hm]; simp; omega
    have htl := tot_len m
    have htp : tot pre + (x.length + 1 + tot post) = tot m := by rw [← hm, tot_append]; rfl
    have hjp := joinL_len pre
    obtain ⟨k, rfl⟩ : ∃ k', k = k' + 1 := ⟨k - 1, by omega⟩
    have hs : F32_2.s58 q (((pre.length : Int), arr (joinL pre), m.map arr, (m.length : Int), ()), (), ()) = some (.inl ((((pre ++ [x]).length : Int), arr (joinL (pre ++ [x])), m.map arr, (m.length : Int), ()), (), ())) := by
      show F32_2.go58 q (pre.length : Int) (arr (joinL pre)) (m.map arr) (m.length : Int) = _
      unfold F32_2.go58
      have hwn : IntKind.i64.wrap ((pre.length : Int) + 1) = ((pre.length + 1 : Nat) : Int) := wadd1 _ (by show _ ≤ 140737488351232; omega)
      have hg : (m.map arr).getD pre.length ⟨⟨[]⟩⟩ = arr x := by rw [map_getD, ← hm]; simp
      have hl1 : (pre ++ [x]).length = pre.length + 1 := by simp
      have hgt : decide ((pre.length : Int) > 0) = !pre.isEmpty := lenG pre
      rw [List.length_map, ltD (by omega), dec0, Int.toNat_natCast, hg, hwn, joinL_snoc, hl1, hgt, szI,
        decide_eq_true (show (arr (joinL pre)).size + 1 ≤ 9223372036854775807 by rw [arr_size]; omega),
        decide_eq_true (show (joinL pre).length + 1 + (arr x).size ≤ 9223372036854775807 by rw [arr_size]; omega),
        decide_eq_true (show (arr (joinL pre)).size + (arr x).size ≤ 9223372036854775807 by rw [arr_size, arr_size]; omega)]
      cases hp : pre.isEmpty
      · rfl
      · have : pre = [] := List.isEmpty_iff.1 hp
        subst this; rfl
    rw [loopN_inl hs]
    exact J2_loop m ht post (pre ++ [x]) k q (by rw [← hm]; simp) (by simp only [List.length_cons] at hk; omega)
theorem J2_eq (k : Nat) (m : List (List UInt8)) (ht : tot m ≤ lim) (hk : m.length < k) : F32_2.go k (m.map arr) = some ((arr (joinL m), ()), (), ()) := by
  have h := J2_loop m ht m [] k k rfl hk
  have h' : F32_2.l_58 k (((0 : Int), ⟨⟨[]⟩⟩, m.map arr, (m.length : Int), ()), (), ()) = _ := h
  unfold F32_2.go
  rw [List.length_map, h']; rfl
theorem S2_eq (k : Nat) (abs slash : Bool) (m : List (List UInt8)) (ht : tot m ≤ lim) (hk : m.length < k) :
    F12_1.go k abs (m.map arr) slash = some ((arr (strL abs slash m), ()), (), ()) := by
  have ht' : tot m ≤ 4294967296 := ht
  have hj := joinL_len m
  unfold F12_1.go strL
  show Option.bind (F32_2.go k (m.map arr)) _ = _
  rw [J2_eq k m ht hk]
  simp only [Option.bind_some]
  rw [List.length_map, lenZ, lenG, szP, decide_eq_true (show 1 + (arr (joinL m)).size ≤ 9223372036854775807 by rw [arr_size]; omega), decide_eq_true (show (arr (joinL m)).size + 1 ≤ 9223372036854775807 by rw [arr_size]; omega),
    decide_eq_true (show 1 + (joinL m).length + 1 ≤ 9223372036854775807 by omega)]
  have j1 : joinL m = joinL m ++ [] := by simp
  cases hm : m.isEmpty
  · cases abs <;> cases slash <;> simp [arr]
  · cases abs <;> cases slash <;> simp [arr]
end Go.Proofs.Tryd.S

namespace Go.Proofs.Tryd.S
open Go Go.Ev
/-! Split -/
def longB (m : List (List UInt8)) : Bool := m.any fun n => decide (n.length > 27)
theorem F8_step (k : Nat) (e : Int × ByteArray) (s : ByteArray) (abs lg : Bool) (n : List UInt8) (acc : List (List UInt8)) (he : e.2 = arr n) (h : acc.length + 1 ≤ lim) :
    F8.s250 k (((), (), s, (), ()), ((false, (), false, ()), (abs, (), false, ()), (lg, ()), acc.map arr, ()), ()) e = some (.inl (((), (), s, (), ()), ((false, (), false, ()), (abs, (), false, ()), (lg || decide (n.length > 27), ()), (acc ++ [n]).map arr, ()), ())) := by
  show F8.gs250 k s false false abs false lg (acc.map arr) e = _
  unfold F8.gs250
  have hap : acc.map arr ++ [arr n] = (acc ++ [n]).map arr := by simp
  have hg := guard16 (acc.map arr ++ [arr n]) (by rw [List.length_append, List.length_map]; exact h)
  have hd : decide (((arr n).size : Int) > 27) = decide (n.length > 27) := by
    rw [arr_size]
    by_cases hh : n.length > 27
    · rw [decide_eq_true hh, decide_eq_true (by omega)]
    · rw [decide_eq_false hh, decide_eq_false (by omega)]
  have hs : F8.go250 k e.1 (arr n) s false false abs false lg (acc.map arr) = some ((), ((false, (), false, ()), (abs, (), false, ()), (lg || decide (n.length > 27), ()), (acc ++ [n]).map arr, ()), ()) := by
    unfold F8.go250
    rw [hg, hap, hd]
    cases lg <;> rfl
  rw [he, hs]; rfl
theorem F8_fold (k : Nat) (s : ByteArray) (abs : Bool) : ∀ (l : List (List UInt8)) (xs : List (Int × ByteArray)) (acc : List (List UInt8)) (lg : Bool), xs.map (·.2) = l.map arr → acc.length + l.length ≤ lim →
    rfold (F8.s250 k) xs (((), (), s, (), ()), ((false, (), false, ()), (abs, (), false, ()), (lg, ()), acc.map arr, ()), ()) = some (.inl (((), (), s, (), ()), ((false, (), false, ()), (abs, (), false, ()), (lg || longB l, ()), (acc ++ l).map arr, ()), ()))
  | [], xs, acc, lg, hx, h => by
    have : xs = [] := by cases xs with | nil => rfl | cons a r => cases hx
    subst this
    rw [List.append_nil, show longB [] = false from rfl, Bool.or_false]; rfl
  | a :: r, xs, acc, lg, hx, h => by
    have h' : acc.length + (r.length + 1) ≤ 4294967296 := h
    cases xs with
    | nil => cases hx
    | cons e xs =>
      rw [List.map_cons, List.map_cons, List.cons.injEq] at hx
      rw [rfold, F8_step k e s abs lg a acc hx.1 (by show _ ≤ 4294967296; omega)]
      have ih := F8_fold k s abs r xs (acc ++ [a]) (lg || decide (a.length > 27)) hx.2 (by rw [List.length_append]; show acc.length + 1 + r.length ≤ 4294967296; omega)
      rw [show longB (a :: r) = (decide (a.length > 27) || longB r) from rfl, ← Bool.or_assoc, show acc ++ a :: r = acc ++ [a] ++ r by simp]
      exact ih
theorem ix_ge : ∀ l : List UInt8, -1 ≤ ixS (arr l) 0
  | [] => Int.le_refl _
  | c :: r => by
    have ih := ix_ge r
    have h2 : ixS (arr (c :: r)) 0 = if c == (0 : Int).toNat.toUInt8 then 0 else if ixS (arr r) 0 == -1 then -1 else ixS (arr r) 0 + 1 := rfl
    rw [h2]
    split
    · decide
    · split <;> omega
theorem ix0 : ∀ l : List UInt8, decide (ixS (arr l) 0 ≥ 0) = l.any (· == 0)
  | [] => rfl
  | c :: r => by
    have ih := ix0 r
    have hg := ix_ge r
    have h2 : ixS (arr (c :: r)) 0 = if c == (0 : UInt8) then 0 else if ixS (arr r) 0 == -1 then -1 else ixS (arr r) 0 + 1 := rfl
    rw [h2, List.any_cons, ← ih]
    by_cases hc : (c == 0) = true
    · rw [if_pos hc, hc]; rfl
    · rw [if_neg hc, Bool.eq_false_iff.2 hc, Bool.false_or]
      by_cases hm : ixS (arr r) 0 = -1
      · rw [if_pos (by simpa using hm), hm]
      · rw [if_neg (by simpa using hm), decide_eq_true (show ixS (arr r) 0 ≥ 0 by omega), decide_eq_true (by omega)]
def slashL (s : List UInt8) : Bool := !(splitN [] s).isEmpty && (s.getD (s.length - 1) 0 == 47)
abbrev SplitT := (((((Bool × Unit × Bool × Unit) × Int × Unit) × Unit) × Unit × Unit) ⊕ ((((Bool × Unit × Bool × Unit) × Int × Unit) × Unit) × (List ByteArray × Unit) × Unit))
def errS (c : Int) : SplitT := .inl ((((false, (), false, ()), c, ()), ()), (), ())
def okS (s : List UInt8) : SplitT := .inr ((((absL s, (), slashL s, ()), 0, ()), ()), ((splitN [] s).map arr, ()), ())
def codeL (s : List UInt8) : Int := if s.isEmpty then 2 else if decide (s.length > 255) || longB (splitN [] s) then 36 else if s.any (· == 0) then 22 else 0
def splitS (s : List UInt8) : SplitT := if codeL s == 0 then okS s else errS (codeL s)
theorem splitS_nil : splitS [] = errS 2 := rfl
theorem head47 (c : UInt8) (t : List UInt8) : (((((arr (c :: t)).data.getD 0 (OfNat.ofNat 0)).toNat : Nat) : Int) == 47) = absL (c :: t) := by
  rw [arr_get]; exact beq47 c
theorem last47 (s : List UInt8) (h : s.length + 1 ≤ lim) (h0 : 0 < s.length) :
    (IntKind.i64.wrap (((arr s).size : Int) - 1) = ((s.length - 1 : Nat) : Int)) ∧ (((((arr s).data.getD (s.length - 1) (OfNat.ofNat 0)).toNat : Nat) : Int) == 47) = (s.getD (s.length - 1) 0 == 47) := by
  have h' : s.length + 1 ≤ 4294967296 := h
  refine ⟨by rw [arr_size]; exact wsubL _ (by show _ ≤ 4294967296; omega) h0, ?_⟩
  rw [arr_get]; exact beq47 _
theorem F8_eq (k : Nat) (s : List UInt8) (h : s.length + 1 ≤ lim) : F8.go k (arr s) = some (splitS s) := by
  have h' : s.length + 1 ≤ 4294967296 := h
  cases hs : s with
  | nil => unfold F8.go; rw [ne_beq]; rfl
  | cons c t =>
    have hne : s.isEmpty = false := by rw [hs]; rfl
    have hlen : 0 < s.length := by rw [hs]; exact Nat.succ_pos _
    have habs := head47 c t
    rw [← hs] at habs ⊢
    obtain ⟨hw, hlast⟩ := last47 s h hlen
    have hlg : decide (((arr s).size : Int) > 255) = decide (s.length > 255) := by
      rw [arr_size]
      by_cases hh : s.length > 255
      · rw [decide_eq_true hh, decide_eq_true (by omega)]
      · rw [decide_eq_false hh, decide_eq_false (by omega)]
    have hf := F8_fold k (arr s) (absL s) (splitN [] s) (goNames (arr s)) [] (decide (s.length > 255)) (goNames_eq s) (by simpa using splitN_lim s h)
    rw [List.nil_append] at hf
    have hf' : F8.l_250 k (goNames (arr s)) (((), (), arr s, (), ()), ((false, (), false, ()), (absL s, (), false, ()), (decide (s.length > 255), ()), [], ()), ()) = _ := hf
    unfold F8.go splitS codeL
    rw [ne_beq, hne, hlg, habs, decide_eq_true (show (0 : Int) < ((arr s).size : Int) by rw [arr_size]; omega)]
    show (bif Nat.ble (arr s).size 4611686018427387904 then Option.bind (F8.l_250 k (goNames (arr s)) (((), (), arr s, (), ()), ((false, (), false, ()), (absL s, (), false, ()), (decide (s.length > 255), ()), [], ()), ())) _ else none) = _
    rw [Nat.ble_eq_true_of_le (by rw [arr_size]; omega), hf']
    simp only [Option.bind_some, Sum.elim_inl, cond_true, Bool.false_eq_true, if_false]
    cases hl : decide (s.length > 255) || longB (splitN [] s)
    · have h28 : F28.go k (arr s) 0 = some ((ixS (arr s) 0, ()), (), ()) := rfl
      simp only [cond_false, h28, Option.bind_some, ix0, Bool.false_eq_true, if_false]
      cases hz : s.any (· == 0)
      · simp only [cond_false, Bool.false_eq_true, if_false]
        rw [List.length_map, lenG, hw, dec0, arr_size, ltD (show s.length - 1 < s.length by omega), Int.toNat_natCast, hlast]
        unfold okS slashL
        cases (splitN [] s).isEmpty <;> rfl
      · rfl
    · rfl
/-! the document's Split -/
theorem F9_names (s : List UInt8) (m : List (List UInt8)) (hm' : m.length ≤ lim) : ∀ (post pre : List (List UInt8)) (k q : Nat), pre ++ post = m → post.length < k →
    loopN (F9.s250 q) k (((), (pre.length : Int), (), arr s, (), (m.length : Int), ()), ((false, (), false, ()), m.map arr, ()), ()) =
      some (if longB post then .inl (((), 36, ()), ((false, (), false, ()), ()), ()) else .inr (((), arr s, (), ()), ((false, (), false, ()), m.map arr, ()), ()))
  | [], pre, k, q, hm, hk => by
    rw [List.append_nil] at hm
    subst hm
    obtain ⟨k, rfl⟩ : ∃ k', k = k' + 1 := ⟨k - 1, by omega⟩
    refine loopN_inr ?_
    show F9.go250 q (pre.length : Int) (arr s) (pre.length : Int) false false (pre.map arr) = _
    unfold F9.go250
    rw [ltN (by omega)]; rfl
  | x :: post, pre, k, q, hm, hk => by
    have hm2 : m.length ≤ 4294967296 := hm'
    have hml : m.length = pre.length + 1 + post.length := by rw [← hm]; simp; omega
    obtain ⟨k, rfl⟩ : ∃ k', k = k' + 1 := ⟨k - 1, by omega⟩
    have hs : F9.s250 q (((), (pre.length : Int), (), arr s, (), (m.length : Int), ()), ((false, (), false, ()), m.map arr, ()), ()) =
        if decide (x.length > 27) then some (.inr (.inl (((), 36, ()), ((false, (), false, ()), ()), ()))) else some (.inl (((), ((pre ++ [x]).length : Int), (), arr s, (), (m.length : Int), ()), ((false, (), false, ()), m.map arr, ()), ())) := by
      show F9.go250 q (pre.length : Int) (arr s) (m.length : Int) false false (m.map arr) = _
      unfold F9.go250
      have hwn : IntKind.i64.wrap ((pre.length : Int) + 1) = ((pre.length + 1 : Nat) : Int) := wadd1 _ (by show _ ≤ 140737488351232; omega)
      have hg : (m.map arr).getD pre.length ⟨⟨[]⟩⟩ = arr x := by rw [map_getD, ← hm]; simp
      have hl1 : (pre ++ [x]).length = pre.length + 1 := by simp
      have hd : decide (((arr x).size : Int) > 27) = decide (x.length > 27) := by
        rw [arr_size]
        by_cases hh : x.length > 27
        · rw [decide_eq_true hh, decide_eq_true (by omega)]
        · rw [decide_eq_false hh, decide_eq_false (by omega)]
      rw [List.length_map, ltD (by omega), dec0, Int.toNat_natCast, hg, hwn, hl1, hd]
      cases decide (x.length > 27) <;> rfl
    have e : longB (x :: post) = (decide (x.length > 27) || longB post) := rfl
    rw [e]
    by_cases hx : decide (x.length > 27) = true
    · rw [if_pos hx] at hs
      rw [loopN_inr hs, hx]; rfl
    · rw [if_neg hx] at hs
      rw [loopN_inl hs, Bool.eq_false_iff.2 hx, Bool.false_or]
      exact F9_names s m hm' post (pre ++ [x]) k q (by rw [← hm]; simp) (by simp only [List.length_cons] at hk; omega)
theorem F9_zero (s : List UInt8) (row : List ByteArray) (h : s.length + 1 ≤ lim) : ∀ (t p : List UInt8) (k q : Nat), p ++ t = s → t.length < k →
    loopN (F9.s506 q) k (((), (p.length : Int), arr s, (), ()), ((false, (), false, ()), row, ()), ()) =
      some (if t.any (· == 0) then .inl (((), 22, ()), ((false, (), false, ()), ()), ()) else .inr (((), arr s, (), ()), ((false, (), false, ()), row, ()), ()))
  | [], p, k, q, hm, hk => by
    rw [List.append_nil] at hm
    subst hm
    obtain ⟨k, rfl⟩ : ∃ k', k = k' + 1 := ⟨k - 1, by omega⟩
    refine loopN_inr ?_
    show F9.go506 q (p.length : Int) (arr p) false false row = _
    unfold F9.go506
    rw [arr_size, ltN (by omega)]; rfl
  | c :: t, p, k, q, hm, hk => by
    have h' : s.length + 1 ≤ 4294967296 := h
    have hml : s.length = p.length + 1 + t.length := by rw [← hm]; simp; omega
    obtain ⟨k, rfl⟩ : ∃ k', k = k' + 1 := ⟨k - 1, by omega⟩
    have hb : ((c.toNat : Int) == 0) = (c == 0) := by
      rw [Bool.eq_iff_iff]
      simp only [beq_iff_eq]
      constructor
      · intro hh
        have : c.toNat = (0 : UInt8).toNat := by have : (0 : UInt8).toNat = 0 := rfl; omega
        exact UInt8.toNat_inj.1 this
      · intro hh; subst hh; rfl
    have hs : F9.s506 q (((), (p.length : Int), arr s, (), ()), ((false, (), false, ()), row, ()), ()) =
        if c == 0 then some (.inr (.inl (((), 22, ()), ((false, (), false, ()), ()), ()))) else some (.inl (((), ((p ++ [c]).length : Int), arr s, (), ()), ((false, (), false, ()), row, ()), ())) := by
      show F9.go506 q (p.length : Int) (arr s) false false row = _
      unfold F9.go506
      have hwn : IntKind.i64.wrap ((p.length : Int) + 1) = ((p.length + 1 : Nat) : Int) := wadd1 _ (by show _ ≤ 140737488351232; omega)
      have hg : s.getD p.length 0 = c := by rw [← hm]; simp
      have hl1 : (p ++ [c]).length = p.length + 1 := by simp
      rw [arr_size, ltD (by omega), dec0, Int.toNat_natCast, arr_get, hg, hwn, hl1, hb]
      cases c == 0 <;> rfl
    rw [List.any_cons]
    by_cases hx : (c == 0) = true
    · rw [if_pos hx] at hs
      rw [loopN_inr hs, hx]; rfl
    · rw [if_neg hx] at hs
      rw [loopN_inl hs, Bool.eq_false_iff.2 hx, Bool.false_or]
      exact F9_zero s row h t (p ++ [c]) k q (by rw [← hm]; simp) (by simp only [List.length_cons] at hk; omega)
theorem F9_eq (k : Nat) (s : List UInt8) (h : s.length + 1 ≤ lim) (hk : s.length + 1 < k) : F9.go k (arr s) = some (splitS s) := by
  have h' : s.length + 1 ≤ 4294967296 := h
  have h1 := tot_splitN s []
  have h2 := tot_len (splitN [] s)
  simp only [List.length_nil] at h1
  cases hs : s with
  | nil => unfold F9.go; rw [ne_beq]; rfl
  | cons c t =>
    have hne : s.isEmpty = false := by rw [hs]; rfl
    have hlen : 0 < s.length := by rw [hs]; exact Nat.succ_pos _
    rw [← hs]
    obtain ⟨hw, hlast⟩ := last47 s h hlen
    have hlg : decide (((arr s).size : Int) > 255) = decide (s.length > 255) := by
      rw [arr_size]
      by_cases hh : s.length > 255
      · rw [decide_eq_true hh, decide_eq_true (by omega)]
      · rw [decide_eq_false hh, decide_eq_false (by omega)]
    have hnm := F9_names s (splitN [] s) (splitN_lim s h) (splitN [] s) [] k k rfl (by omega)
    have hnm' : F9.l_250 k (((), (0 : Int), (), arr s, (), ((splitN [] s).length : Int), ()), ((false, (), false, ()), (splitN [] s).map arr, ()), ()) = _ := hnm
    have hzr := F9_zero s ((splitN [] s).map arr) h s [] k k rfl (by omega)
    have hzr' : F9.l_506 k (((), (0 : Int), arr s, (), ()), ((false, (), false, ()), (splitN [] s).map arr, ()), ()) = _ := hzr
    unfold F9.go splitS codeL
    rw [ne_beq, hne, hlg, F29_eq k s h (by omega)]
    simp only [Option.bind_some, cond_false, Bool.false_eq_true, if_false, List.length_map]
    cases hl0 : decide (s.length > 255)
    · simp only [cond_false, Bool.false_or]
      rw [hnm']
      cases hl : longB (splitN [] s)
      · simp only [Bool.false_eq_true, if_false, Option.bind_some, Sum.elim_inr]
        rw [hzr']
        cases hz : s.any (· == 0)
        · simp only [Bool.false_eq_true, if_false, Option.bind_some, Sum.elim_inr, F30_eq]
          rw [List.length_map, lenG, hw, dec0, arr_size, ltD (show s.length - 1 < s.length by omega), Int.toNat_natCast, hlast]
          unfold okS slashL
          cases (splitN [] s).isEmpty <;> rfl
        · rfl
      · rfl
    · rfl
/-! Same, of what is the same -/
theorem F10_eq (k : Nat) (a b : Bool) (hk : 0 < k) : F10.go k a b a b = some ((true, ()), (), ()) := by
  obtain ⟨k, rfl⟩ : ∃ k', k = k' + 1 := ⟨k - 1, by omega⟩
  cases a <;> cases b <;> rfl
theorem F10_1_eq (k : Nat) (a b : Bool) (hk : 0 < k) : F10_1.go k a b a b [] = some ((true, ()), ([], ()), ()) := by
  obtain ⟨k, rfl⟩ : ∃ k', k = k' + 1 := ⟨k - 1, by omega⟩
  cases a <;> cases b <;> rfl
theorem same_loop (m : List (List UInt8)) (a b c d : Bool) (hl : m.length ≤ lim) : ∀ (post pre : List (List UInt8)) (k q : Nat), pre ++ post = m → post.length < k →
    loopN (F10_3.s58 q) k (((pre.length : Int), (), (), (m.length : Int), ()), (m.map arr, m.map arr, (a, (), b, ()), (c, (), d, ()), ()), ()) = some (.inr ((), (m.map arr, m.map arr, ()), ()))
  | [], pre, k, q, hm, hk => by
    rw [List.append_nil] at hm
    subst hm
    obtain ⟨k, rfl⟩ : ∃ k', k = k' + 1 := ⟨k - 1, by omega⟩
    refine loopN_inr ?_
    show F10_3.go58 q (pre.length : Int) (pre.length : Int) (pre.map arr) (pre.map arr) a b c d = _
    unfold F10_3.go58
    rw [ltN (by omega)]; rfl
  | x :: post, pre, k, q, hm, hk => by
    have hl' : m.length ≤ 4294967296 := hl
    have hml : m.length = pre.length + 1 + post.length := by rw [← hm]; simp; omega
    obtain ⟨k, rfl⟩ : ∃ k', k = k' + 1 := ⟨k - 1, by omega⟩
    have hs : F10_3.s58 q (((pre.length : Int), (), (), (m.length : Int), ()), (m.map arr, m.map arr, (a, (), b, ()), (c, (), d, ()), ()), ()) = some (.inl ((((pre ++ [x]).length : Int), (), (), (m.length : Int), ()), (m.map arr, m.map arr, (a, (), b, ()), (c, (), d, ()), ()), ())) := by
      show F10_3.go58 q (pre.length : Int) (m.length : Int) (m.map arr) (m.map arr) a b c d = _
      unfold F10_3.go58
      have hwn : IntKind.i64.wrap ((pre.length : Int) + 1) = ((pre.length + 1 : Nat) : Int) := wadd1 _ (by show _ ≤ 140737488351232; omega)
      have hl1 : (pre ++ [x]).length = pre.length + 1 := by simp
      rw [List.length_map, ltD (by omega), dec0, Int.toNat_natCast, hwn, hl1, beq_self_eq_true]
      rfl
    rw [loopN_inl hs]
    exact same_loop m a b c d hl post (pre ++ [x]) k q (by rw [← hm]; simp) (by simp only [List.length_cons] at hk; omega)
theorem F10_3_eq (k : Nat) (a b : Bool) (m : List (List UInt8)) (hl : m.length ≤ lim) (hk : m.length < k) : F10_3.go k a b a b (m.map arr) (m.map arr) = some ((true, ()), (m.map arr, m.map arr, ()), ()) := by
  have h := same_loop m a b a b hl m [] k k rfl hk
  have h' : F10_3.l_58 k (((0 : Int), (), (), (m.length : Int), ()), (m.map arr, m.map arr, (a, (), b, ()), (a, (), b, ()), ()), ()) = _ := h
  unfold F10_3.go
  rw [List.length_map, h']
  have e : ((m.length : Int) != (m.length : Int)) = false := by simp
  rw [e]
  cases a <;> cases b <;> rfl
theorem F13_loop (m : List (List UInt8)) (hl : m.length ≤ lim) : ∀ (post pre : List (List UInt8)) (k q : Nat), pre ++ post = m → post.length < k →
    loopN (F13.s58 q) k (((pre.length : Int), m.map arr, m.map arr, (m.length : Int), ()), (), ()) = some (.inr ((), (), ()))
  | [], pre, k, q, hm, hk => by
    rw [List.append_nil] at hm
    subst hm
    obtain ⟨k, rfl⟩ : ∃ k', k = k' + 1 := ⟨k - 1, by omega⟩
    refine loopN_inr ?_
    show F13.go58 q (pre.length : Int) (pre.map arr) (pre.map arr) (pre.length : Int) = _
    unfold F13.go58
    rw [ltN (by omega)]; rfl
  | x :: post, pre, k, q, hm, hk => by
    have hl' : m.length ≤ 4294967296 := hl
    have hml : m.length = pre.length + 1 + post.length := by rw [← hm]; simp; omega
    obtain ⟨k, rfl⟩ : ∃ k', k = k' + 1 := ⟨k - 1, by omega⟩
    have hs : F13.s58 q (((pre.length : Int), m.map arr, m.map arr, (m.length : Int), ()), (), ()) = some (.inl ((((pre ++ [x]).length : Int), m.map arr, m.map arr, (m.length : Int), ()), (), ())) := by
      show F13.go58 q (pre.length : Int) (m.map arr) (m.map arr) (m.length : Int) = _
      unfold F13.go58
      have hwn : IntKind.i64.wrap ((pre.length : Int) + 1) = ((pre.length + 1 : Nat) : Int) := wadd1 _ (by show _ ≤ 140737488351232; omega)
      have hl1 : (pre ++ [x]).length = pre.length + 1 := by simp
      rw [List.length_map, ltD (by omega), dec0, Int.toNat_natCast, hwn, hl1, beq_self_eq_true]
      rfl
    rw [loopN_inl hs]
    exact F13_loop m hl post (pre ++ [x]) k q (by rw [← hm]; simp) (by simp only [List.length_cons] at hk; omega)
theorem F13_eq (k : Nat) (m : List (List UInt8)) (hl : m.length ≤ lim) (hk : m.length < k) : F13.go k (m.map arr) (m.map arr) = some ((true, ()), (), ()) := by
  have h := F13_loop m hl m [] k k rfl hk
  have h' : F13.l_58 k (((0 : Int), m.map arr, m.map arr, (m.length : Int), ()), (), ()) = _ := h
  unfold F13.go
  rw [List.length_map, h']
  have e : ((m.length : Int) != (m.length : Int)) = false := by simp
  rw [e]; rfl
theorem F3_over (s : List UInt8) (a b c d : Bool) (w : List ByteArray) (n : Nat) (hn : n ≤ lim) : ∀ (r i : Nat) (row : List ByteArray) (k q : Nat), i + r = n → row.length = n → r < k →
    loopN (F3.s1018 q) k (((i : Int), (), (), arr s, (n : Int), ()), ((a, (), b, ()), (c, (), d, ()), row, w, ()), ()) = some (((), arr s, ()), ((c, (), d, ()), w, ()), ())
  | 0, i, row, k, q, hi, hr, hk => by
    obtain ⟨k, rfl⟩ : ∃ k', k = k' + 1 := ⟨k - 1, by omega⟩
    refine loopN_inr ?_
    show F3.go1018 q (i : Int) (arr s) (n : Int) a b c d row w = _
    unfold F3.go1018
    rw [ltN (by omega)]; rfl
  | r + 1, i, row, k, q, hi, hr, hk => by
    have hn' : n ≤ 4294967296 := hn
    obtain ⟨k, rfl⟩ : ∃ k', k = k' + 1 := ⟨k - 1, by omega⟩
    have hs : F3.s1018 q (((i : Int), (), (), arr s, (n : Int), ()), ((a, (), b, ()), (c, (), d, ()), row, w, ()), ()) = some (.inl ((((i + 1 : Nat) : Int), (), (), arr s, (n : Int), ()), ((a, (), b, ()), (c, (), d, ()), row.set i ⟨⟨[120]⟩⟩, w, ()), ())) := by
      show F3.go1018 q (i : Int) (arr s) (n : Int) a b c d row w = _
      unfold F3.go1018
      rw [ltD (show i < n by omega), ltD (show i < row.length by omega), dec0, Int.toNat_natCast, wadd1 _ (by show _ ≤ 140737488351232; omega)]
      rfl
    rw [loopN_inl hs]
    exact F3_over s a b c d w n hn r (i + 1) _ k q (by omega) (by rw [List.length_set]; exact hr) (by omega)
/-- a path falls into its parts -/
theorem pathSplits (k : Nat) (s : List UInt8) (abs slash : Bool) (m : List (List UInt8)) (h : s.length + 1 ≤ lim) (hm : tot m ≤ lim) (hk : 4294967296 < k) : F3.go k (arr s) abs (m.map arr) slash = some (Sum.inl ((true, ()), (), ())) := by
  have h' : s.length + 1 ≤ 4294967296 := h
  have hm' : tot m ≤ 4294967296 := hm
  have hml := tot_len m
  have hsl := splitN_lim s h
  have hsl' : (splitN [] s).length ≤ 4294967296 := hsl
  have e8 := F8_eq k s h
  have e9 := F9_eq k s h (by omega)
  unfold F3.go
  unfold splitS at e8 e9
  cases hc : codeL s == 0
  · rw [hc] at e8 e9
    have e8' : F8.go k (arr s) = some (errS (codeL s)) := e8
    have e9' : F9.go k (arr s) = some (errS (codeL s)) := e9
    have ho := F3_over s false false false false [] 0 (Nat.zero_le _) 0 0 [] k k rfl rfl (by omega)
    have ho' : F3.l_1018 k (((0 : Int), (), (), arr s, 0, ()), ((false, (), false, ()), (false, (), false, ()), [], [], ()), ()) = _ := ho
    unfold errS at e8' e9'
    simp only [e8', e9', Option.bind_some, Sum.elim_inl, bne_self_eq_false, cond_false, F10_eq k false false (by omega), Bool.not_true]
    rw [guard16 _ (by rw [List.length_map]; show _ ≤ 4294967296; omega), S1_eq k abs slash m hm (by omega)]
    simp only [cond_true, Option.bind_some, Sum.elim_inl]
    rw [S2_eq k abs slash m hm (by omega)]
    simp only [Option.bind_some, beq_self_eq_true, Bool.not_true, cond_false]
    rw [F13_eq k m (by show _ ≤ 4294967296; omega) (by omega)]
    simp only [Option.bind_some, Bool.not_true, cond_false]
    rw [ho']
    simp only [Option.bind_some, e8', Sum.elim_inl]
    rw [F10_1_eq k false false (by omega)]
    simp only [Option.bind_some, cond_true]
    rw [lives k (by omega)]; rfl
  · rw [hc] at e8 e9
    have e8' : F8.go k (arr s) = some (okS s) := e8
    have e9' : F9.go k (arr s) = some (okS s) := e9
    have ho := F3_over s (absL s) (slashL s) (absL s) (slashL s) ((splitN [] s).map arr) (splitN [] s).length hsl (splitN [] s).length 0 ((splitN [] s).map arr) k k (by omega) (by rw [List.length_map]) (by omega)
    have ho' : F3.l_1018 k (((0 : Int), (), (), arr s, ((splitN [] s).length : Int), ()), ((absL s, (), slashL s, ()), (absL s, (), slashL s, ()), (splitN [] s).map arr, (splitN [] s).map arr, ()), ()) = _ := ho
    have e10 := F10_3_eq k (absL s) (slashL s) (splitN [] s) hsl (by omega)
    unfold okS at e8' e9'
    simp only [e8', e9', Option.bind_some, Sum.elim_inr, bne_self_eq_false, cond_false, e10, Bool.not_true]
    rw [guard16 _ (by rw [List.length_map]; show _ ≤ 4294967296; omega), S1_eq k abs slash m hm (by omega)]
    simp only [cond_true, Option.bind_some, Sum.elim_inl]
    rw [S2_eq k abs slash m hm (by omega)]
    simp only [Option.bind_some, beq_self_eq_true, Bool.not_true, cond_false]
    rw [F13_eq k m (by show _ ≤ 4294967296; omega) (by omega)]
    simp only [Option.bind_some, Bool.not_true, cond_false]
    rw [show ((((splitN [] s).map arr).length : Nat) : Int) = ((splitN [] s).length : Int) by rw [List.length_map], ho']
    simp only [Option.bind_some, e8', Sum.elim_inr, e10, cond_true]
    rw [lives k (by omega)]; rfl
theorem strBulk_tot : ∀ l : List ByteArray, tot (l.map fun s => s.data.toList) = strBulk l
  | [] => rfl
  | x :: r => by
    have ih := strBulk_tot r
    show x.size + 1 + tot (r.map fun s => s.data.toList) = x.size + 1 + strBulk r
    rw [ih]
theorem pathSplitsP (a0 : ByteArray) (a1 : Bool) (a2 : List ByteArray) (a3 : Bool) (h0 : a0.size ≤ 1048576) (hb : avBulks [(.v (.string a0)), (.agg [(.v (.bool a1)), (.ro false (.S a2)), (.v (.bool a3))])] ≤ 1048576) : ∃ k, F3.go k a0 a1 a2 a3 = some (Sum.inl ((true, ()), (), ())) := by
  have ht : strBulk a2 ≤ 1048576 := by
    simp only [avBulks, avBulk, lstBulk] at hb
    omega
  have h := pathSplits 4294967297 a0.data.toList a1 a3 (a2.map fun s => s.data.toList) (Nat.le_trans (Nat.succ_le_succ h0) (by decide)) (by rw [strBulk_tot]; exact Nat.le_trans ht (by decide)) (by decide)
  rw [← eta_list] at h
  exact ⟨_, h⟩
end Go.Proofs.Tryd.S

