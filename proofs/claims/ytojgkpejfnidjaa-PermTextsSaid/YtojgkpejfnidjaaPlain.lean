/- The plain law: what perm.Change and the reference's Change compute is the same for every text, mode and umask. -/
import Derived.Test.YtojgkpejfnidjaaWalk
import Derived.Test.YtojgkpejfnidjaaEv4
set_option linter.unusedVariables false
set_option linter.unusedSimpArgs false
set_option linter.unusedSectionVars false
set_option maxRecDepth 100000
namespace Go.Proofs.Try.S
open Go Go.Ev
abbrev or' (a b : Int) : Int := IntKind.i64.wrap ↑(BitVec.ofInt IntKind.i64.bits a ||| BitVec.ofInt IntKind.i64.bits b).toNat
abbrev and' (a b : Int) : Int := IntKind.i64.wrap ↑(BitVec.ofInt IntKind.i64.bits a &&& BitVec.ofInt IntKind.i64.bits b).toNat
abbrev andn' (a b : Int) : Int := IntKind.i64.wrap ↑(BitVec.ofInt IntKind.i64.bits a &&& ~~~BitVec.ofInt IntKind.i64.bits b).toNat
def whoS (c : Int) : Option Int := bif c == 117 then some 2496 else bif c == 103 then some 1080 else bif c == 111 then some 519 else bif c == 97 then some 4095 else none
def whatS (old c : Int) : Option Int :=
  bif c == 114 then some 292 else bif c == 119 then some 146 else bif c == 120 then some 73 else
  bif c == 88 then (bif and' old 61440 == 16384 then some 73 else bif and' old 73 != 0 then some 73 else some 0) else
  bif c == 115 then some 3072 else bif c == 116 then some 512 else none
def copS (m c : Int) : Option Int :=
  bif c == 117 then some (IntKind.i64.wrap (and' (m.fdiv (2 ^ 6)) 7 * 73)) else
  bif c == 103 then some (IntKind.i64.wrap (and' (m.fdiv (2 ^ 3)) 7 * 73)) else
  bif c == 111 then some (IntKind.i64.wrap (and' m 7 * 73)) else none
def setS (op of b m : Int) : Int := bif op == 43 then or' m (and' b of) else bif op == 45 then andn' m (and' b of) else or' (andn' m of) (and' b of)
def scan (f : Int → Option Int) : List UInt8 → Int → Int × List UInt8
  | [], a => (a, [])
  | c :: l, a => match f c.toNat with
    | some b => scan f l (or' a b)
    | none => (a, c :: l)
theorem scan_len (f : Int → Option Int) : ∀ l a, (scan f l a).2.length ≤ l.length
  | [], a => Nat.le_refl _
  | c :: l, a => by
    unfold scan
    cases f c.toNat with
    | none => exact Nat.le_refl _
    | some b => exact Nat.le_succ_of_le (scan_len f l _)
theorem scan_drop (f : Int → Option Int) : ∀ l a, (scan f l a).2 = l.drop (l.length - (scan f l a).2.length)
  | [], a => rfl
  | c :: l, a => by
    unfold scan
    cases f c.toNat with
    | none => simp
    | some b =>
      have h := scan_drop f l (or' a b)
      have h' := scan_len f l (or' a b)
      show (scan f l (or' a b)).2 = (c :: l).drop (l.length + 1 - (scan f l (or' a b)).2.length)
      rw [show l.length + 1 - (scan f l (or' a b)).2.length = (l.length - (scan f l (or' a b)).2.length) + 1 by omega, List.drop_succ_cons]
      exact h
def actS (op of old m : Int) : List UInt8 → Int × List UInt8
  | [] => (setS op of 0 m, [])
  | c :: l => match copS m c.toNat with
    | some b => (setS op of b m, l)
    | none => (setS op of (scan (whatS old) (c :: l) 0).1 m, (scan (whatS old) (c :: l) 0).2)
theorem actS_len (op of old m : Int) (l : List UInt8) : (actS op of old m l).2.length ≤ l.length := by
  cases l with
  | nil => exact Nat.le_refl _
  | cons c l =>
    rw [actS]
    cases copS m c.toNat with
    | none => exact scan_len (whatS old) (c :: l) 0
    | some b => exact Nat.le_succ l.length
def acts (of old : Int) : Nat → List UInt8 → Int → Option (Int × List UInt8)
  | 0, _, _ => none
  | n + 1, [], m => some (m, [])
  | n + 1, c :: l, m => bif c == 44 then some (m, c :: l) else bif c == 43 || c == 45 || c == 61 then acts of old n (actS c.toNat of old m l).2 (actS c.toNat of old m l).1 else none
def clauseS (old um : Int) (l : List UInt8) (m : Int) : Option (Int × List UInt8) :=
  match (scan whoS l 0).2 with
  | [] => none
  | c :: t => bif c == 44 then none else
    acts (bif (scan whoS l 0).2.length == l.length then andn' 4095 um else (scan whoS l 0).1) old ((c :: t).length + 1) (c :: t) m
def changeS (old um : Int) : Nat → List UInt8 → Int → Option Int
  | 0, _, _ => none
  | n + 1, l, m => match clauseS old um l m with
    | none => none
    | some (m', []) => some m'
    | some (m', _ :: r) => changeS old um n r m'

/-! impl -/
theorem F32_eq (k : Nat) (c : Int) : F32.go k c = some ((((whoS c).getD 0, (whoS c).isSome, ()), ()), (), ()) := by
  unfold F32.go whoS
  cases c == 117 <;> cases c == 103 <;> cases c == 111 <;> cases c == 97 <;> rfl
theorem F41_eq (k : Nat) (c a1 a2 a3 : Int) (a4 : ByteArray) : F41.go k c a1 a2 a3 a4 = some ((((whatS a1 c).getD 0, (whatS a1 c).isSome, ()), ()), ((a1, a2, a3, a4, ()), ()), ()) := by
  unfold F41.go whatS
  cases c == 114 <;> cases c == 119 <;> cases c == 120 <;> cases c == 88 <;> cases c == 115 <;> cases c == 116 <;> cases and' a1 61440 == 16384 <;> cases and' a1 73 != 0 <;> rfl
theorem F39_eq (k : Nat) (c a1 a2 a3 : Int) (a4 : ByteArray) : F39.go k c a1 a2 a3 a4 = some ((((copS a2 c).getD 0, (copS a2 c).isSome, ()), ()), ((a1, a2, a3, a4, ()), ()), ()) := by
  unfold F39.go copS
  cases c == 117 <;> cases c == 103 <;> cases c == 111 <;> rfl
theorem F40_eq (k : Nat) (op of b old m um : Int) (s : ByteArray) : F40.go k op of b old m um s = some (((), ()), ((old, setS op of b m, um, s, ()), ()), ()) := by
  unfold F40.go setS
  cases op == 43 <;> cases op == 45 <;> rfl
theorem whoS_hi (c : Int) (h : 128 ≤ c) : whoS c = none := by
  have e (n : Int) (hn : n < 128) : (c == n) = false := by rw [beq_eq_false_iff_ne]; omega
  simp [whoS, e]
theorem whatS_hi (old c : Int) (h : 128 ≤ c) : whatS old c = none := by
  have e (n : Int) (hn : n < 128) : (c == n) = false := by rw [beq_eq_false_iff_ne]; omega
  simp [whatS, e]
/-- A function of runes that answers letters only: what it says of a rune of a text. -/
theorem rune (f : Int → Option Int) (hf : ∀ c, 128 ≤ c → f c = none) (l : List UInt8) (i : Nat) (h : i < l.length) :
    f ↑(Utf8.decode (arr l) i).1 = f ↑(l[i]).toNat ∧ (f ↑(l[i]).toNat ≠ none → (Utf8.decode (arr l) i).2 = 1) := by
  rcases Nat.lt_or_ge (l[i]).toNat 128 with c | c
  · rw [dec_lo l i h c]; exact ⟨rfl, fun _ => rfl⟩
  · have h1 : f ↑(l[i]).toNat = none := hf _ (by omega)
    have h2 : f ↑(Utf8.decode (arr l) i).1 = none := hf _ (by have := dec_hi l i h c; omega)
    rw [h1, h2]; exact ⟨rfl, fun h => absurd rfl h⟩

theorem loopN_inr {A B : Type} {f : A → Option (A ⊕ B)} {k : Nat} {x : A} {y : B} (h : f x = some (.inr y)) : loopN f (k + 1) x = some y := by
  unfold loopN; rw [h]
theorem loopN_inl {A B : Type} {f : A → Option (A ⊕ B)} {k : Nat} {x x' : A} (h : f x = some (.inl x')) : loopN f (k + 1) x = loopN f k x' := by
  rw [loopN, h]
theorem drop_cons {l : List UInt8} {pos : Nat} (h : pos < l.length) : l.drop pos = l[pos] :: l.drop (pos + 1) := List.drop_eq_getElem_cons h
theorem nil_toList : (ByteArray.mk ⟨[]⟩).toList = [] := arr_toList []
theorem arr_drop (l : List UInt8) (i : Nat) : (arr l).extract i l.length = arr (l.drop i) := arr_extract_size l i
theorem go58_at {l : List UInt8} (hl : l.length ≤ 140737488351232) (k : Nat) (n o a m u : Int) (s : ByteArray) (pos : Nat) (h : pos < l.length) :
    F24.go58 k n o a m u s (arr l, pos) = match whoS ↑(l[pos]).toNat with
      | none => some (.inr (((), n, o, ()), ((a, m, u, s, ()), ()), ()))
      | some b => some (.inl (((), ((pos + 1 : Nat) : Int), or' o b, (), ()), ((a, m, u, s, ()), (arr l, pos + 1), ()), ())) := by
  obtain ⟨h1, h2⟩ := rune whoS whoS_hi l pos h
  unfold F24.go58
  simp only [F32_eq, arr_size, h, decide_true, cond_true, Option.bind_some, h1]
  cases e : whoS ↑(l[pos]).toNat with
  | none => rfl
  | some b =>
    rw [h2 (by rw [e]; simp), wrap_id (by omega) (by omega)]
    rfl
theorem go58_end {l : List UInt8} (hl : l.length ≤ 140737488351232) (k : Nat) (n o a m u : Int) (s : ByteArray) (pos : Nat) (h : l.length ≤ pos) :
    F24.go58 k n o a m u s (arr l, pos) = some (.inr (((), n, o, ()), ((a, m, u, s, ()), ()), ())) := by
  unfold F24.go58
  simp only [arr_size, Nat.not_lt.2 h, decide_false, cond_false]
theorem l58 {l : List UInt8} (hl : l.length ≤ 140737488351232) (k0 : Nat) (a m u : Int) (s : ByteArray) : ∀ (k pos : Nat) (o : Int), pos ≤ l.length → l.length - pos < k →
    loopN (fun x => F24.go58 k0 x.fst.snd.fst x.fst.snd.snd.fst x.snd.fst.fst.fst x.snd.fst.fst.snd.fst x.snd.fst.fst.snd.snd.fst
        x.snd.fst.fst.snd.snd.snd.fst x.snd.fst.snd.fst) k (((), (pos : Int), o, (), ()), ((a, m, u, s, ()), (arr l, pos), ()), ()) =
      some (((), ((l.length - (scan whoS (l.drop pos) o).2.length : Nat) : Int), (scan whoS (l.drop pos) o).1, ()), ((a, m, u, s, ()), ()), ())
  | 0, pos, o, h, hk => absurd hk (Nat.not_lt_zero _)
  | k + 1, pos, o, h, hk => by
    rcases Nat.lt_or_ge pos l.length with c | c
    · have e := go58_at hl k0 pos o a m u s pos c
      rw [drop_cons c, scan]
      cases ew : whoS ↑(l[pos]).toNat with
      | none =>
        rw [ew] at e
        refine (loopN_inr e).trans ?_
        have : l.length - (l[pos] :: l.drop (pos + 1)).length = pos := by simp; omega
        simp only [this]
      | some b =>
        rw [ew] at e
        refine (loopN_inl e).trans ?_
        exact l58 hl k0 a m u s k (pos + 1) (or' o b) c (by omega)
    · have e := go58_end hl k0 pos o a m u s pos c
      refine (loopN_inr e).trans ?_
      have : pos = l.length := Nat.le_antisymm h c
      subst this
      simp [scan]
theorem go122_at {l : List UInt8} (hl : l.length ≤ 140737488351232) (k : Nat) (b of op n a m u : Int) (s : ByteArray) (pos : Nat) (h : pos < l.length) :
    F33.go122 k b of op n a m u s (arr l, pos) = match whatS a ↑(l[pos]).toNat with
      | none => some (.inr ((b, of, op, (), n, ()), ((a, m, u, s, ()), ()), ()))
      | some b' => some (.inl ((or' b b', of, op, (), ((pos + 1 : Nat) : Int), (), ()), ((a, m, u, s, ()), (arr l, pos + 1), ()), ())) := by
  obtain ⟨h1, h2⟩ := rune (whatS a) (whatS_hi a) l pos h
  unfold F33.go122
  simp only [F41_eq, arr_size, h, decide_true, cond_true, Option.bind_some, h1]
  cases e : whatS a ↑(l[pos]).toNat with
  | none => rfl
  | some b =>
    rw [h2 (by rw [e]; simp), wrap_id (n := (pos : Int) + 1) (by omega) (by omega)]
    rfl
theorem go122_end {l : List UInt8} (hl : l.length ≤ 140737488351232) (k : Nat) (b of op n a m u : Int) (s : ByteArray) (pos : Nat) (h : l.length ≤ pos) :
    F33.go122 k b of op n a m u s (arr l, pos) = some (.inr ((b, of, op, (), n, ()), ((a, m, u, s, ()), ()), ())) := by
  unfold F33.go122
  simp only [arr_size, Nat.not_lt.2 h, decide_false, cond_false]
theorem l122 {l : List UInt8} (hl : l.length ≤ 140737488351232) (k0 : Nat) (of op a m u : Int) (s : ByteArray) : ∀ (k pos : Nat) (o : Int), pos ≤ l.length → l.length - pos < k →
    loopN (fun x => F33.go122 k0 x.fst.fst x.fst.snd.fst x.fst.snd.snd.fst x.fst.snd.snd.snd.snd.fst x.snd.fst.fst.fst
        x.snd.fst.fst.snd.fst x.snd.fst.fst.snd.snd.fst x.snd.fst.fst.snd.snd.snd.fst x.snd.fst.snd.fst) k ((o, of, op, (), (pos : Int), (), ()), ((a, m, u, s, ()), (arr l, pos), ()), ()) =
      some (((scan (whatS a) (l.drop pos) o).1, of, op, (), ((l.length - (scan (whatS a) (l.drop pos) o).2.length : Nat) : Int), ()), ((a, m, u, s, ()), ()), ())
  | 0, pos, o, h, hk => absurd hk (Nat.not_lt_zero _)
  | k + 1, pos, o, h, hk => by
    rcases Nat.lt_or_ge pos l.length with c | c
    · have e := go122_at hl k0 o of op pos a m u s pos c
      rw [drop_cons c, scan]
      cases ew : whatS a ↑(l[pos]).toNat with
      | none =>
        rw [ew] at e
        refine (loopN_inr e).trans ?_
        have : l.length - (l[pos] :: l.drop (pos + 1)).length = pos := by simp; omega
        simp only [this]
      | some b =>
        rw [ew] at e
        refine (loopN_inl e).trans ?_
        exact l122 hl k0 of op a m u s k (pos + 1) (or' o b) c (by omega)
    · have e := go122_end hl k0 o of op pos a m u s pos c
      refine (loopN_inr e).trans ?_
      have : pos = l.length := Nat.le_antisymm h c
      subst this
      simp [scan]
theorem F33_eq {l : List UInt8} (hl : l.length ≤ 140737488351232) (k : Nat) (hk : l.length < k) (op of a m u : Int) :
    F33.go k op of a m u (arr l) = some (((), ()), ((a, (actS op of a m l).1, u, arr (actS op of a m l).2, ()), ()), ()) := by
  have L := l122 hl k of op a m u (arr l) k 0 0 (Nat.zero_le _) (by omega)
  have L' : F33.l_122 k ((0, of, op, (), 0, (), ()), ((a, m, u, arr l, ()), (arr l, 0), ()), ()) = _ := L
  have hd := scan_drop (whatS a) l 0
  have hlen := scan_len (whatS a) l 0
  unfold F33.go
  rw [arr_toList, nil_toList]
  rw [List.drop_zero] at L'
  cases l with
  | nil =>
    simp only [F39_eq, L', Option.bind_some, F40_eq]
    rfl
  | cons c t =>
    have e1 : (arr (c :: t)).data.getD 0 0 = c := rfl
    simp only [e1, F39_eq, Option.bind_some, F40_eq, L', actS, arr_size, arr_drop]
    cases copS m ↑c.toNat with
    | none =>
      simp only [Option.getD_none, Option.isSome_none, Option.isSome_some, ← hd, Int.toNat_natCast]
      have h1 : (((c :: t).length - (scan (whatS a) (c :: t) 0).snd.length : Nat) : Int) ≤ ((c :: t).length : Int) := by omega
      have h2 : (0 : Int) ≤ (((c :: t).length - (scan (whatS a) (c :: t) 0).snd.length : Nat) : Int) := by omega
      have h3 : (0 : Int) < ((c :: t).length : Int) := by simp
      simp only [h1, h2, h3, decide_true, cond_true, cond_false]
      rfl
    | some b =>
      simp
      simp only [show (1 : Int) ≤ ↑t.length + 1 by omega, decide_true, cond_true]
theorem actS_len' (op of old m : Int) (l : List UInt8) : (actS op of old m l).2.length < l.length + 1 := Nat.lt_succ_of_le (actS_len op of old m l)
theorem go508_nil (k : Nat) (n of a m u : Int) : F24.go508 k n of a m u (arr []) = some (.inr (.inr ((n, ()), ((a, m, u, arr [], ()), ()), ()))) := by
  unfold F24.go508
  rw [arr_toList, nil_toList]
  rfl
theorem go508_comma (k : Nat) (n of a m u : Int) (t : List UInt8) : F24.go508 k n of a m u (arr (44 :: t)) = some (.inr (.inr ((n, ()), ((a, m, u, arr (44 :: t), ()), ()), ()))) := by
  unfold F24.go508
  rw [arr_toList, nil_toList]
  have h3 : (0 : Int) < (((44 :: t : List UInt8)).length : Int) := by simp
  have e1 : (arr (44 :: t)).data.getD 0 0 = 44 := rfl
  simp only [arr_size, h3, decide_true, e1]
  rfl
theorem go508_cons (k : Nat) (n of a m u : Int) (c : UInt8) (t : List UInt8) (hc : (c == 44) = false) (hl : (c :: t).length ≤ 140737488351232) (hk : t.length < k) (hn : -1 ≤ n) (hn' : n ≤ 140737488351232) :
    F24.go508 k n of a m u (arr (c :: t)) = bif c == 43 || c == 45 || c == 61 then some (.inl ((n + 1, of, (), ()), ((a, (actS c.toNat of a m t).1, u, arr (actS c.toNat of a m t).2, ()), ()), ()))
      else some (.inr (.inl (((), ()), ((a, m, u, arr (c :: t), ()), ()), ()))) := by
  have hb (d : UInt8) : ((c.toNat : Int) == (d.toNat : Int)) = (c == d) := by
    rw [Bool.eq_iff_iff, beq_iff_eq, beq_iff_eq, Int.ofNat_inj, UInt8.toNat_inj]
  unfold F24.go508
  rw [arr_toList, nil_toList]
  have h3 : (0 : Int) < ((c :: t).length : Int) := by simp
  have h4 : (1 : Int) ≤ ((c :: t).length : Int) := by simp; omega
  have e1 : (arr (c :: t)).data.getD 0 0 = c := rfl
  have b1 : (c.toNat : Int) != 44 := by have := hb 44; rw [hc] at this; simp only [bne, Bool.not_eq_true', this]; exact this
  have b2 : ((c.toNat : Int) != 43) = !(c == 43) := congrArg _ (hb 43)
  have b3 : ((c.toNat : Int) != 45) = !(c == 45) := congrArg _ (hb 45)
  have b4 : ((c.toNat : Int) != 61) = !(c == 61) := congrArg _ (hb 61)
  have hd : List.drop 1 (c :: t) = t := rfl
  have lt : t.length ≤ 140737488351232 := by simp at hl; omega
  simp only [arr_size, h3, h4, decide_true, e1, b1, b2, b3, b4, arr_drop, hd, F33_eq lt k hk, wrap_id (n := n + 1) (by omega) (by omega), Option.bind_some, cond_true]
  cases c == 43 <;> cases c == 45 <;> cases c == 61 <;> rfl
theorem acts_len (of a : Int) : ∀ (n : Nat) (l : List UInt8) (m : Int) (m' : Int) (r : List UInt8), acts of a n l m = some (m', r) → r.length ≤ l.length
  | 0, l, m, m', r, h => by cases h
  | n + 1, [], m, m', r, h => by
    injection h with h; cases h; exact Nat.le_refl _
  | n + 1, c :: t, m, m', r, h => by
    rw [acts] at h
    cases e : c == 44 <;> rw [e] at h
    · cases e' : (c == 43 || c == 45 || c == 61) <;> rw [e'] at h
      · cases h
      · have := acts_len of a n _ _ m' r h
        have := actS_len c.toNat of a m t
        simp; omega
    · injection h with h; cases h; exact Nat.le_refl _
theorem l508 (k0 : Nat) (of a u : Int) : ∀ (n : Nat) (l : List UInt8) (m : Int) (k : Nat) (c : Int), l.length < n → n ≤ k → l.length < k0 → l.length ≤ 140737488351232 → 0 ≤ c → c + l.length ≤ 140737488351232 →
    match acts of a n l m with
    | none => ∃ z, loopN (fun x => F24.go508 k0 x.fst.fst x.fst.snd.fst x.snd.fst.fst.fst x.snd.fst.fst.snd.fst x.snd.fst.fst.snd.snd.fst x.snd.fst.fst.snd.snd.snd.fst) k ((c, of, (), ()), ((a, m, u, arr l, ()), ()), ()) = some (.inl z)
    | some (m', r) => ∃ c', c ≤ c' ∧ loopN (fun x => F24.go508 k0 x.fst.fst x.fst.snd.fst x.snd.fst.fst.fst x.snd.fst.fst.snd.fst x.snd.fst.fst.snd.snd.fst x.snd.fst.fst.snd.snd.snd.fst) k ((c, of, (), ()), ((a, m, u, arr l, ()), ()), ()) = some (.inr ((c', ()), ((a, m', u, arr r, ()), ()), ()))
  | 0, l, m, k, c, h, _, _, _, _, _ => absurd h (Nat.not_lt_zero _)
  | n + 1, [], m, 0, c, _, hk, _, _, _, _ => absurd hk (Nat.not_succ_le_zero _)
  | n + 1, [], m, k + 1, c, _, hk, _, _, _, _ => ⟨c, Int.le_refl _, loopN_inr (go508_nil k0 c of a m u)⟩
  | n + 1, d :: t, m, 0, c, _, hk, _, _, _, _ => absurd hk (Nat.not_succ_le_zero _)
  | n + 1, d :: t, m, k + 1, c, hn, hk, hk0, hl, hc, hc' => by
    rw [acts]
    cases e : d == 44
    · have S := go508_cons k0 c of a m u d t e hl (by simp at hk0; omega) (by omega) (by omega)
      cases e' : (d == 43 || d == 45 || d == 61) <;> rw [e'] at S
      · exact ⟨_, loopN_inr S⟩
      · have h' := actS_len d.toNat of a m t
        simp at hn hk0 hl hc'
        have I := l508 k0 of a u n (actS d.toNat of a m t).2 (actS d.toNat of a m t).1 k (c + 1) (by omega) (by omega) (by omega) (by omega) (by omega) (by omega)
        simp only [cond_true, cond_false]
        revert I
        cases acts of a n (actS d.toNat of a m t).2 (actS d.toNat of a m t).1 with
        | none => intro I; obtain ⟨z, I⟩ := I; exact ⟨z, (loopN_inl S).trans I⟩
        | some y => intro I; obtain ⟨c', hc, I⟩ := I; exact ⟨c', by omega, (loopN_inl S).trans I⟩
    · rw [beq_iff_eq] at e
      subst e
      exact ⟨c, Int.le_refl _, loopN_inr (go508_comma k0 c of a m u t)⟩
theorem F24_eq (k : Nat) (a m u : Int) (l : List UInt8) (hl : l.length ≤ 140737488351232) (hk : l.length + 2 ≤ k) :
    match clauseS a u l m with
    | none => ∃ z, F24.go k a m u (arr l) = some (.inl z)
    | some (m', r) => F24.go k a m u (arr l) = some (.inr (((), ()), ((a, m', u, arr r, ()), ()), ())) := by
  have L := l58 hl k a m u (arr l) k 0 0 (Nat.zero_le _) (by omega)
  have L' : F24.l_58 k (((), 0, 0, (), ()), ((a, m, u, arr l, ()), (arr l, 0), ()), ()) = _ := L
  rw [List.drop_zero] at L'
  have hd := scan_drop whoS l 0
  have hlen := scan_len whoS l 0
  have hx : (l.length == (scan whoS l 0).2.length) = ((((l.length - (scan whoS l 0).2.length : Nat)) : Int) == 0) := by
    rw [Bool.eq_iff_iff, beq_iff_eq, beq_iff_eq]; omega
  have h1 : ((l.length - (scan whoS l 0).2.length : Nat) : Int) ≤ (l.length : Int) := by omega
  have h2 : (0 : Int) ≤ ((l.length - (scan whoS l 0).2.length : Nat) : Int) := by omega
  -- what the code does after the letters
  have key : F24.go k a m u (arr l) = (F24.l_508 k ((0, (bif (scan whoS l 0).2.length == l.length then andn' 4095 u else (scan whoS l 0).1), (), ()), ((a, m, u, arr (scan whoS l 0).2, ()), ()), ())).bind fun y6 =>
      Sum.elim (fun y7 => some (Sum.inl (((), ()), ((y7.snd.fst.fst.fst, y7.snd.fst.fst.snd.fst, y7.snd.fst.fst.snd.snd.fst, y7.snd.fst.fst.snd.snd.snd.fst, ()), ()), ())))
        (fun y7 => bif y7.fst.fst == 0 then some (Sum.inl (((), ()), ((y7.snd.fst.fst.fst, y7.snd.fst.fst.snd.fst, y7.snd.fst.fst.snd.snd.fst, y7.snd.fst.fst.snd.snd.snd.fst, ()), ()), ()))
          else some (Sum.inr (((), ()), ((y7.snd.fst.fst.fst, y7.snd.fst.fst.snd.fst, y7.snd.fst.fst.snd.snd.fst, y7.snd.fst.fst.snd.snd.snd.fst, ()), ()), ()))) y6 := by
    unfold F24.go
    simp only [L', Option.bind_some, arr_size, arr_drop, Int.toNat_natCast, ← hd, h1, h2, decide_true, cond_true]
    rw [Bool.beq_comm (a := (scan whoS l 0).2.length), hx]
    cases ((((l.length - (scan whoS l 0).2.length : Nat)) : Int) == 0) <;> rfl
  have hr : (scan whoS l 0).2.length ≤ 140737488351232 := Nat.le_trans hlen hl
  rw [key, clauseS]
  generalize (bif (scan whoS l 0).2.length == l.length then andn' 4095 u else (scan whoS l 0).1) = of
  revert hr hlen
  cases (scan whoS l 0).2 with
  | nil =>
    intro hlen hr
    have : F24.l_508 k ((0, of, (), ()), ((a, m, u, arr [], ()), ()), ()) = _ := (by
      obtain ⟨j, rfl⟩ : ∃ j, k = j + 1 := ⟨k - 1, by omega⟩
      exact loopN_inr (go508_nil (j + 1) 0 of a m u))
    rw [this]
    exact ⟨_, rfl⟩
  | cons d t =>
    intro hlen hr
    obtain ⟨j, rfl⟩ : ∃ j, k = j + 1 := ⟨k - 1, by omega⟩
    cases e : d == 44
    · have S := go508_cons (j + 1) 0 of a m u d t e hr (by simp at hlen; omega) (by omega) (by omega)
      simp only [cond_false]
      rw [acts, e, cond_false]
      cases e' : (d == 43 || d == 45 || d == 61) <;> rw [e'] at S
      · have : F24.l_508 (j + 1) ((0, of, (), ()), ((a, m, u, arr (d :: t), ()), ()), ()) = _ := loopN_inr S
        rw [this]
        exact ⟨_, rfl⟩
      · have h' := actS_len d.toNat of a m t
        simp at hlen hr
        have I := l508 (j + 1) of a u (t.length + 1) (actS d.toNat of a m t).2 (actS d.toNat of a m t).1 j (0 + 1) (by omega) (by omega) (by omega) (by omega) (by omega) (by omega)
        simp only [cond_true, List.length_cons]
        revert I
        cases acts of a (t.length + 1) (actS d.toNat of a m t).2 (actS d.toNat of a m t).1 with
        | none =>
          intro I; obtain ⟨z, I⟩ := I
          have : F24.l_508 (j + 1) ((0, of, (), ()), ((a, m, u, arr (d :: t), ()), ()), ()) = _ := (loopN_inl S).trans I
          rw [this]; exact ⟨_, rfl⟩
        | some y =>
          intro I; obtain ⟨c', hc, I⟩ := I
          have : F24.l_508 (j + 1) ((0, of, (), ()), ((a, m, u, arr (d :: t), ()), ()), ()) = _ := (loopN_inl S).trans I
          rw [this]
          have : (c' == 0) = false := by rw [beq_eq_false_iff_ne]; omega
          simp only [Option.bind_some, Sum.elim_inr, this, cond_false]
    · rw [beq_iff_eq] at e
      subst e
      have : F24.l_508 (j + 1) ((0, of, (), ()), ((a, m, u, arr (44 :: t), ()), ()), ()) = _ := loopN_inr (go508_comma (j + 1) 0 of a m u t)
      rw [this]
      exact ⟨_, rfl⟩
theorem clauseS_len {a u : Int} {l : List UInt8} {m m' : Int} {r : List UInt8} (h : clauseS a u l m = some (m', r)) : r.length ≤ l.length := by
  have hlen := scan_len whoS l 0
  rw [clauseS] at h
  revert h hlen
  generalize (bif (scan whoS l 0).2.length == l.length then andn' 4095 u else (scan whoS l 0).1) = of
  cases (scan whoS l 0).2 with
  | nil => intro h hlen; simp at h
  | cons d t =>
    intro h hlen
    simp only at h
    cases e : d == 44 <;> rw [e] at h
    · exact Nat.le_trans (acts_len of a _ _ _ _ _ h) hlen
    · cases h
theorem l252 (k0 : Nat) (kind m0 e0 a u : Int) : ∀ (n : Nat) (l : List UInt8) (m : Int) (k : Nat), l.length < n → n ≤ k → l.length + 2 ≤ k0 → l.length ≤ 140737488351232 →
    loopN (fun x => F7.go252 k0 x.fst.snd.snd.snd.fst x.snd.fst.fst.fst x.snd.fst.snd.fst.fst x.snd.fst.snd.snd.fst.fst
        x.snd.fst.snd.snd.fst.snd.fst x.snd.fst.snd.snd.fst.snd.snd.fst x.snd.fst.snd.snd.fst.snd.snd.snd.fst) k (((), (), (), kind, ()), ((m0, ()), (e0, ()), (a, m, u, arr l, ()), ()), ((), (), ()), ()) =
      match changeS a u n l m with
      | none => some (.inl (((), (), (), ()), ((m0, ()), (e0, ()), ()), ((), (), ()), ()))
      | some m' => some (.inr (((), (), (), kind, ()), ((m0, ()), (e0, ()), (a, m', u, arr [], ()), ()), ((), (), ()), ()))
  | 0, l, m, k, h, _, _, _ => absurd h (Nat.not_lt_zero _)
  | n + 1, l, m, 0, h, hk, _, _ => absurd hk (Nat.not_succ_le_zero _)
  | n + 1, l, m, k + 1, hn, hk, hk0, hl => by
    have C := F24_eq k0 a m u l hl hk0
    rw [changeS]
    revert C
    cases e : clauseS a u l m with
    | none =>
      intro C
      obtain ⟨z, C⟩ := C
      refine loopN_inr ?_
      unfold F7.go252
      simp only
      rw [C]; rfl
    | some y =>
      obtain ⟨m', r⟩ := y
      intro C
      have hr := clauseS_len e
      cases r with
      | nil =>
        refine loopN_inr ?_
        unfold F7.go252
        dsimp only at C ⊢
        rw [C]
        simp only [Option.bind_some, Sum.elim_inr, arr_toList, nil_toList]
        rfl
      | cons d r =>
        have hs : F7.go252 k0 kind m0 e0 a m u (arr l) = some (.inl (((), (), (), kind, ()), ((m0, ()), (e0, ()), (a, m', u, arr r, ()), ()), ((), (), ()), ())) := by
          unfold F7.go252
          dsimp only at C ⊢
          rw [C]
          have h4 : (1 : Int) ≤ ((d :: r).length : Int) := by simp; omega
          simp only [Option.bind_some, Sum.elim_inr, arr_toList, nil_toList, arr_size, arr_drop, h4, decide_true]
          rfl
        simp at hr
        exact (loopN_inl hs).trans (l252 k0 kind m0 e0 a u n r m' k (by omega) (by omega) (by omega) (by omega))
/-! octal -/
def octS : List UInt8 → Int → Option Int
  | [], a => some a
  | c :: l, a => bif decide (c.toNat < 48) || decide (55 < c.toNat) then none else octS l (IntKind.i64.wrap (IntKind.i64.wrap (a * 8) + ((c.toNat : Int) - 48)))
theorem F22go_at (k : Nat) (a : Int) (l : List UInt8) (pos : Nat) (h : pos < l.length) :
    F22.go122 k a (arr l, pos) = bif decide ((l[pos]).toNat < 48) || decide (55 < (l[pos]).toNat) then some (.inr (.inl ((0, false, ()), (), ())))
      else some (.inl ((IntKind.i64.wrap (IntKind.i64.wrap (a * 8) + (((l[pos]).toNat : Int) - 48)), (), ()), ((arr l, pos + 1), ()), ())) := by
  unfold F22.go122
  simp only [arr_size, h, decide_true, cond_true]
  rcases Nat.lt_or_ge (l[pos]).toNat 128 with c | c
  · rw [dec_lo l pos h c]
    dsimp only
    by_cases c1 : (l[pos]).toNat < 48
    · have : (((l[pos]).toNat : Nat) : Int) < 48 := by omega
      simp only [this, c1, decide_true, cond_true, Bool.true_or]
    · by_cases c2 : 55 < (l[pos]).toNat
      · have h1 : ¬ (((l[pos]).toNat : Nat) : Int) < 48 := by omega
        have h2 : (((l[pos]).toNat : Nat) : Int) > 55 := by omega
        simp only [h1, h2, c1, c2, decide_true, cond_true, decide_false, cond_false, Bool.or_true]
      · have h1 : ¬ (((l[pos]).toNat : Nat) : Int) < 48 := by omega
        have h2 : ¬ (((l[pos]).toNat : Nat) : Int) > 55 := by omega
        have h3 : IntKind.i32.wrap (((l[pos]).toNat : Int) - 48) = ((l[pos]).toNat : Int) - 48 := by rw [IntKind.wrap_i32]; omega
        simp only [h1, h2, c1, c2, decide_false, cond_false, Bool.or_false, h3, wrap_id (n := ((l[pos]).toNat : Int) - 48) (by omega) (by omega)]
  · have hd := dec_hi l pos h c
    have h1 : ¬ ((Utf8.decode (arr l) pos).1 : Int) < 48 := by omega
    have h2 : ((Utf8.decode (arr l) pos).1 : Int) > 55 := by omega
    have c2 : 55 < (l[pos]).toNat := by omega
    simp only [h1, h2, c2, decide_true, cond_true, decide_false, cond_false, Bool.or_true]
theorem F22go_end (k : Nat) (a : Int) (l : List UInt8) (pos : Nat) (h : l.length ≤ pos) : F22.go122 k a (arr l, pos) = some (.inr (.inr ((a, ()), (), ()))) := by
  unfold F22.go122
  simp only [arr_size, Nat.not_lt.2 h, decide_false, cond_false]
theorem F22l (k0 : Nat) (l : List UInt8) : ∀ (k pos : Nat) (a : Int), pos ≤ l.length → l.length - pos < k →
    loopN (fun x => F22.go122 k0 x.fst.fst x.snd.fst.fst) k ((a, (), ()), ((arr l, pos), ()), ()) = match octS (l.drop pos) a with
      | none => some (.inl ((0, false, ()), (), ()))
      | some v => some (.inr ((v, ()), (), ()))
  | 0, pos, a, h, hk => absurd hk (Nat.not_lt_zero _)
  | k + 1, pos, a, h, hk => by
    rcases Nat.lt_or_ge pos l.length with c | c
    · have e := F22go_at k0 a l pos c
      rw [drop_cons c, octS]
      cases ew : (decide ((l[pos]).toNat < 48) || decide (55 < (l[pos]).toNat)) <;> rw [ew] at e
      · exact (loopN_inl e).trans (F22l k0 l k (pos + 1) _ c (by omega))
      · exact loopN_inr e
    · have e := F22go_end k0 a l pos c
      have : pos = l.length := Nat.le_antisymm h c
      subst this
      refine (loopN_inr e).trans ?_
      rw [List.drop_length]
      rfl
def octalS (l : List UInt8) : Option Int := bif l.isEmpty then none else bif decide (4 < l.length) then none else octS l 0
theorem F22_eq (k : Nat) (hk : 5 ≤ k) (l : List UInt8) : F22.go k (arr l) = some ((((octalS l).getD 0, (octalS l).isSome, ()), ()), (), ()) := by
  unfold F22.go octalS
  rw [arr_toList, nil_toList, arr_size]
  cases l with
  | nil => rfl
  | cons c t =>
    simp only [List.isEmpty_cons, cond_false]
    by_cases h : 4 < (c :: t).length
    · have h' : ((c :: t).length : Int) > 4 := by omega
      simp only [h, h', decide_true, cond_true]
      rfl
    · have h' : ¬ ((c :: t).length : Int) > 4 := by omega
      have L : F22.l_122 k ((0, (), ()), ((arr (c :: t), 0), ()), ()) = _ := F22l k (c :: t) k 0 0 (Nat.zero_le _) (by omega)
      rw [List.drop_zero] at L
      simp only [h, h', decide_false, cond_false, L]
      cases octS (c :: t) 0 <;> rfl
theorem F25go_at (k : Nat) (a : Int) (l : List UInt8) (pos : Nat) (h : pos < l.length) (hp : pos < 100) :
    F25.go122 k pos (arr l) a = bif decide ((l[pos]).toNat < 48) || decide (55 < (l[pos]).toNat) then some (.inr (.inl ((0, false, ()), (), ())))
      else some (.inl ((((pos + 1 : Nat) : Int), arr l, IntKind.i64.wrap (IntKind.i64.wrap (a * 8) + (((l[pos]).toNat : Int) - 48)), ()), (), ())) := by
  unfold F25.go122
  have h0 : (pos : Int) < (l.length : Int) := by omega
  have h0' : (0 : Int) ≤ (pos : Int) := by omega
  have hg : (arr l).data.getD pos 0 = l[pos] := by rw [arr_get, List.getD_eq_getElem?_getD, List.getElem?_eq_getElem h]; rfl
  simp only [arr_size, h0, h0', decide_true, cond_true, Int.toNat_natCast, hg]
  by_cases c1 : (l[pos]).toNat < 48
  · have : (((l[pos]).toNat : Nat) : Int) < 48 := by omega
    simp only [this, c1, decide_true, cond_true, Bool.true_or]
  · by_cases c2 : 55 < (l[pos]).toNat
    · have h1 : ¬ (((l[pos]).toNat : Nat) : Int) < 48 := by omega
      have h2 : (((l[pos]).toNat : Nat) : Int) > 55 := by omega
      simp only [h1, h2, c1, c2, decide_true, cond_true, decide_false, cond_false, Bool.or_true]
    · have h1 : ¬ (((l[pos]).toNat : Nat) : Int) < 48 := by omega
      have h2 : ¬ (((l[pos]).toNat : Nat) : Int) > 55 := by omega
      have h3 : IntKind.u8.wrap (((l[pos]).toNat : Int) - 48) = ((l[pos]).toNat : Int) - 48 := by rw [IntKind.wrap_u8]; omega
      simp only [h1, h2, c1, c2, decide_false, cond_false, Bool.or_false, h3, wrap_id (n := ((l[pos]).toNat : Int) - 48) (by omega) (by omega), wrap_id (n := (pos : Int) + 1) (by omega) (by omega)]
      rfl
theorem F25go_end (k : Nat) (a : Int) (l : List UInt8) (pos : Nat) (h : l.length ≤ pos) : F25.go122 k pos (arr l) a = some (.inr (.inr ((a, ()), (), ()))) := by
  unfold F25.go122
  have : ¬ (pos : Int) < (l.length : Int) := by omega
  simp only [arr_size, this, decide_false, cond_false]
theorem F25l (k0 : Nat) (l : List UInt8) (hl : l.length < 50) : ∀ (k pos : Nat) (a : Int), pos ≤ l.length → l.length - pos < k →
    loopN (fun x => F25.go122 k0 x.fst.fst x.fst.snd.fst x.fst.snd.snd.fst) k (((pos : Int), arr l, a, ()), (), ()) = match octS (l.drop pos) a with
      | none => some (.inl ((0, false, ()), (), ()))
      | some v => some (.inr ((v, ()), (), ()))
  | 0, pos, a, h, hk => absurd hk (Nat.not_lt_zero _)
  | k + 1, pos, a, h, hk => by
    rcases Nat.lt_or_ge pos l.length with c | c
    · have e := F25go_at k0 a l pos c (by omega)
      rw [drop_cons c, octS]
      cases ew : (decide ((l[pos]).toNat < 48) || decide (55 < (l[pos]).toNat)) <;> rw [ew] at e
      · exact (loopN_inl e).trans (F25l k0 l hl k (pos + 1) _ c (by omega))
      · exact loopN_inr e
    · have e := F25go_end k0 a l pos c
      have : pos = l.length := Nat.le_antisymm h c
      subst this
      refine (loopN_inr e).trans ?_
      rw [List.drop_length]
      rfl
theorem F25_eq (k : Nat) (hk : 5 ≤ k) (l : List UInt8) : F25.go k (arr l) = some ((((octalS l).getD 0, (octalS l).isSome, ()), ()), (), ()) := by
  unfold F25.go octalS
  rw [arr_size]
  cases l with
  | nil => rfl
  | cons c t =>
    have h1 : ¬ ((c :: t).length : Int) < 1 := by simp; omega
    simp only [List.isEmpty_cons, cond_false, h1, decide_false]
    by_cases h : 4 < (c :: t).length
    · have h' : ((c :: t).length : Int) > 4 := by omega
      simp only [h, h', decide_true, cond_true]
      rfl
    · have h' : ¬ ((c :: t).length : Int) > 4 := by omega
      have L : F25.l_122 k ((0, arr (c :: t), 0, ()), (), ()) = _ := F25l k (c :: t) (by omega) k 0 0 (Nat.zero_le _) (by omega)
      rw [List.drop_zero] at L
      simp only [h, h', decide_false, cond_false, L]
      cases octS (c :: t) 0 <;> rfl
/-- The whole of it: what Change answers. -/
def ChangeS (l : List UInt8) (old um : Int) : Int × Int :=
  match octalS l with
  | some n => (or' (and' (and' old 65535) 61440) n, 0)
  | none => match changeS (and' old 65535) um (l.length + 1) l (and' (and' old 65535) 4095) with
    | none => (0, 22)
    | some m => (or' (and' (and' old 65535) 61440) m, 0)
theorem F7_eq (k : Nat) (l : List UInt8) (hl : l.length ≤ 140737488351232) (hk : l.length + 5 ≤ k) (old um : Int) :
    F7.go k (arr l) old um = some ((((ChangeS l old um).1, (ChangeS l old um).2, ()), ()), (), ()) := by
  unfold F7.go ChangeS
  rw [F22_eq k (by omega)]
  simp only [Option.bind_some]
  cases octalS l with
  | some n => rfl
  | none =>
    have L : F7.l_252 k (((), (), (), and' old 65535, ()), ((0, ()), (0, ()), (and' old 65535, and' (and' old 65535) 4095, um, arr l, ()), ()), ((), (), ()), ()) = _ :=
      l252 k (and' old 65535) 0 0 (and' old 65535) um (l.length + 1) l (and' (and' old 65535) 4095) k (by omega) (by omega) (by omega) hl
    simp only [Option.isSome_none, cond_false]
    rw [L]
    cases changeS (and' old 65535) um (l.length + 1) l (and' (and' old 65535) 4095) <;> rfl
end Go.Proofs.Try.S

namespace Go.Proofs.Try.S
open Go Go.Ev
theorem u8_beq (c d : UInt8) : ((c.toNat : Int) == (d.toNat : Int)) = (c == d) := by
  rw [Bool.eq_iff_iff, beq_iff_eq, beq_iff_eq, Int.ofNat_inj, UInt8.toNat_inj]
theorem get_at {l : List UInt8} {pos : Nat} (h : pos < l.length) : (arr l).data.getD pos 0 = l[pos] := by
  rw [arr_get, List.getD_eq_getElem?_getD, List.getElem?_eq_getElem h]; rfl
/-! among -/
theorem F34l (k0 : Nat) (b : Int) (l : List UInt8) (hl : l.length < 50) : ∀ (k pos : Nat), pos ≤ l.length → l.length - pos < k →
    loopN (fun x => F34.go26 k0 x.fst.fst x.fst.snd.fst x.fst.snd.snd.fst) k (((pos : Int), b, arr l, ()), (), ()) =
      some (bif (l.drop pos).any (fun d => (d.toNat : Int) == b) then .inl ((true, ()), (), ()) else .inr ((), (), ()))
  | 0, pos, h, hk => absurd hk (Nat.not_lt_zero _)
  | k + 1, pos, h, hk => by
    rcases Nat.lt_or_ge pos l.length with c | c
    · have h0 : (pos : Int) < (l.length : Int) := by omega
      have h0' : (0 : Int) ≤ (pos : Int) := by omega
      rw [drop_cons c, List.any_cons]
      cases e : ((l[pos]).toNat : Int) == b
      · have s : F34.go26 k0 pos b (arr l) = some (.inl ((((pos + 1 : Nat) : Int), b, arr l, ()), (), ())) := by
          unfold F34.go26
          simp only [arr_size, h0, h0', decide_true, cond_true, Int.toNat_natCast, get_at c, e, cond_false, wrap_id (n := (pos : Int) + 1) (by omega) (by omega)]
          rfl
        exact (loopN_inl s).trans (F34l k0 b l hl k (pos + 1) c (by omega))
      · refine loopN_inr ?_
        dsimp only
        unfold F34.go26
        simp only [arr_size, h0, h0', decide_true, cond_true, Int.toNat_natCast, get_at c, e]
        rfl
    · have : pos = l.length := Nat.le_antisymm h c
      subst this
      refine loopN_inr ?_
      dsimp only
      unfold F34.go26
      simp only [arr_size, Int.lt_irrefl, decide_false, cond_false, List.drop_length]
      rfl
theorem F34_eq (k : Nat) (b : Int) (l : List UInt8) (hl : l.length < 50) (hk : l.length < k) : F34.go k b (arr l) = some ((l.any (fun d => (d.toNat : Int) == b), ()), (), ()) := by
  have L : F34.l_26 k ((0, b, arr l, ()), (), ()) = _ := F34l k b l hl k 0 (Nat.zero_le _) (by omega)
  rw [List.drop_zero] at L
  unfold F34.go
  rw [L]
  cases l.any (fun d => (d.toNat : Int) == b) <;> rfl
theorem F34_who (k : Nat) (hk : 10 ≤ k) (b : Int) : F34.go k b (ByteArray.mk ⟨[117, 103, 111, 97]⟩) = some (((whoS b).isSome, ()), (), ()) := by
  refine (F34_eq k b [117, 103, 111, 97] (by decide) (by simp; omega)).trans ?_
  have e (n : Nat) : ((n : Int) == b) = (b == (n : Int)) := Bool.beq_comm
  simp only [List.any_cons, List.any_nil, e, whoS]
  have : ((117 : UInt8).toNat : Int) = 117 := rfl
  cases h1 : b == 117 <;> cases h2 : b == 103 <;> cases h3 : b == 111 <;> cases h4 : b == 97 <;> (simp_all <;> try (simp [this] at *)) 
theorem F34_what (k : Nat) (hk : 10 ≤ k) (a b : Int) : F34.go k b (ByteArray.mk ⟨[114, 119, 120, 88, 115, 116]⟩) = some (((whatS a b).isSome, ()), (), ()) := by
  refine (F34_eq k b [114, 119, 120, 88, 115, 116] (by decide) (by simp; omega)).trans ?_
  have e (n : Nat) : ((n : Int) == b) = (b == (n : Int)) := Bool.beq_comm
  simp only [List.any_cons, List.any_nil, e, whatS]
  have e1 : (((114 : UInt8).toNat : Nat) : Int) = 114 := rfl
  have e2 : (((119 : UInt8).toNat : Nat) : Int) = 119 := rfl
  have e3 : (((120 : UInt8).toNat : Nat) : Int) = 120 := rfl
  have e4 : (((88 : UInt8).toNat : Nat) : Int) = 88 := rfl
  have e5 : (((115 : UInt8).toNat : Nat) : Int) = 115 := rfl
  have e6 : (((116 : UInt8).toNat : Nat) : Int) = 116 := rfl
  rw [e1, e2, e3, e4, e5, e6]
  cases b == 114 <;> cases b == 119 <;> cases b == 120 <;> cases b == 88 <;> cases b == 115 <;> cases b == 116 <;> cases and' a 61440 == 16384 <;> cases and' a 73 != 0 <;> rfl
theorem F34_cop (k : Nat) (hk : 10 ≤ k) (a b : Int) : F34.go k b (ByteArray.mk ⟨[117, 103, 111]⟩) = some (((copS a b).isSome, ()), (), ()) := by
  refine (F34_eq k b [117, 103, 111] (by decide) (by simp; omega)).trans ?_
  have e (n : Nat) : ((n : Int) == b) = (b == (n : Int)) := Bool.beq_comm
  simp only [List.any_cons, List.any_nil, e, copS]
  have e1 : (((117 : UInt8).toNat : Nat) : Int) = 117 := rfl
  have e2 : (((103 : UInt8).toNat : Nat) : Int) = 103 := rfl
  have e3 : (((111 : UInt8).toNat : Nat) : Int) = 111 := rfl
  rw [e1, e2, e3]
  cases b == 117 <;> cases b == 103 <;> cases b == 111 <;> rfl
theorem F34_op (k : Nat) (hk : 10 ≤ k) (c : UInt8) : F34.go k c.toNat (ByteArray.mk ⟨[43, 45, 61]⟩) = some ((c == 43 || c == 45 || c == 61, ()), (), ()) := by
  refine (F34_eq k c.toNat [43, 45, 61] (by decide) (by simp; omega)).trans ?_
  simp only [List.any_cons, List.any_nil, u8_beq, Bool.or_false, ← Bool.or_assoc]
  rw [Bool.beq_comm (a := (43 : UInt8)), Bool.beq_comm (a := (45 : UInt8)), Bool.beq_comm (a := (61 : UInt8))]
theorem F35_eq (k : Nat) (b : Int) (h : (whoS b).isSome = true) : F35.go k b = some (((whoS b).getD 0, ()), (), ()) := by
  unfold F35.go
  unfold whoS at *
  revert h
  cases b == 117 <;> cases b == 103 <;> cases b == 111 <;> cases b == 97 <;> intro h <;> first | rfl | exact absurd h Bool.false_ne_true
theorem F37_eq (k : Nat) (b a : Int) (h : (whatS a b).isSome = true) : F37.go k b a = some (((whatS a b).getD 0, ()), (), ()) := by
  unfold F37.go
  unfold whatS at *
  have x (n m : Int) (hnm : n ≠ m) : b == n → (b == m) = false := by
    intro h; rw [beq_iff_eq] at h; subst h; rw [beq_eq_false_iff_ne]; exact hnm
  have h1 := x 88 115 (by decide)
  have h2 := x 88 116 (by decide)
  revert h h1 h2
  cases b == 114 <;> cases b == 119 <;> cases b == 120 <;> cases b == 88 <;> cases b == 115 <;> cases b == 116 <;> cases and' a 61440 == 16384 <;> cases and' a 73 != 0 <;> intro h h1 h2 <;> first | rfl | exact absurd (h1 rfl) (by decide) | exact absurd (h2 rfl) (by decide) | exact absurd h Bool.false_ne_true
theorem F36_eq (k : Nat) (b m : Int) (h : (copS m b).isSome = true) : F36.go k b m = some (((copS m b).getD 0, ()), (), ()) := by
  unfold F36.go
  unfold copS at *
  have x (n m : Int) (hnm : n ≠ m) : b == n → (b == m) = false := by
    intro h; rw [beq_iff_eq] at h; subst h; rw [beq_eq_false_iff_ne]; exact hnm
  have h1 := x 117 103 (by decide)
  have e : m.fdiv (2 ^ 0) = m := by rw [Int.pow_zero, Int.fdiv_one]
  rw [e]
  revert h h1
  cases b == 117 <;> cases b == 103 <;> cases b == 111 <;> intro h h1 <;> first | rfl | exact absurd (h1 rfl) (by decide) | exact absurd h Bool.false_ne_true
theorem R28 {l : List UInt8} (hl : l.length ≤ 140737488351232) (k0 : Nat) (hk0 : 10 ≤ k0) (now old um : Int) : ∀ (k pos : Nat) (o : Int), pos ≤ l.length → l.length - pos < k →
    loopN (fun x => F26.go28 k0 x.fst.fst x.fst.snd.fst x.fst.snd.snd.fst x.fst.snd.snd.snd.fst x.fst.snd.snd.snd.snd.fst x.fst.snd.snd.snd.snd.snd.fst) k
      (((pos : Int), arr l, o, now, old, um, ()), (), ()) =
      some ((now, arr l, old, ((l.length - (scan whoS (l.drop pos) o).2.length : Nat) : Int), um, (scan whoS (l.drop pos) o).1, ()), (), ())
  | 0, pos, o, h, hk => absurd hk (Nat.not_lt_zero _)
  | k + 1, pos, o, h, hk => by
    rcases Nat.lt_or_ge pos l.length with c | c
    · have h0 : (pos : Int) < (l.length : Int) := by omega
      have h0' : (0 : Int) ≤ (pos : Int) := by omega
      rw [drop_cons c, scan]
      cases ew : whoS ↑(l[pos]).toNat with
      | none =>
        have : l.length - (l[pos] :: l.drop (pos + 1)).length = pos := by simp; omega
        simp only [this]
        refine loopN_inr ?_
        dsimp only
        unfold F26.go28
        simp only [arr_size, h0, h0', decide_true, cond_true, Int.toNat_natCast, get_at c, F34_who k0 hk0, ew, Option.bind_some]
        rfl
      | some b =>
        have s : F26.go28 k0 pos (arr l) o now old um = some (.inl ((((pos + 1 : Nat) : Int), arr l, or' o b, now, old, um, ()), (), ())) := by
          unfold F26.go28
          simp only [arr_size, h0, h0', decide_true, cond_true, Int.toNat_natCast, get_at c, F34_who k0 hk0, F35_eq k0 ↑(l[pos]).toNat (by rw [ew]; rfl), ew, Option.bind_some, wrap_id (n := (pos : Int) + 1) (by omega) (by omega)]
          rfl
        exact (loopN_inl s).trans (R28 hl k0 hk0 now old um k (pos + 1) (or' o b) c (by omega))
    · have : pos = l.length := Nat.le_antisymm h c
      subst this
      refine loopN_inr ?_
      dsimp only
      unfold F26.go28
      simp only [arr_size, Int.lt_irrefl, decide_false, cond_false, List.drop_length]
      simp [scan]
theorem R51 {l : List UInt8} (hl : l.length ≤ 140737488351232) (k0 : Nat) (hk0 : 10 ≤ k0) (old mask now op : Int) : ∀ (k pos : Nat) (o : Int), pos ≤ l.length → l.length - pos < k →
    loopN (fun x => F26.go516854 k0 x.fst.fst x.fst.snd.fst x.fst.snd.snd.fst x.fst.snd.snd.snd.fst x.fst.snd.snd.snd.snd.fst
        x.fst.snd.snd.snd.snd.snd.fst x.fst.snd.snd.snd.snd.snd.snd.fst) k
      (((pos : Int), old, arr l, o, mask, now, op, ()), (), ()) =
      some ((mask, arr l, old, ((l.length - (scan (whatS old) (l.drop pos) o).2.length : Nat) : Int), (scan (whatS old) (l.drop pos) o).1, now, op, ()), (), ())
  | 0, pos, o, h, hk => absurd hk (Nat.not_lt_zero _)
  | k + 1, pos, o, h, hk => by
    rcases Nat.lt_or_ge pos l.length with c | c
    · have h0 : (pos : Int) < (l.length : Int) := by omega
      have h0' : (0 : Int) ≤ (pos : Int) := by omega
      rw [drop_cons c, scan]
      cases ew : whatS old ↑(l[pos]).toNat with
      | none =>
        have : l.length - (l[pos] :: l.drop (pos + 1)).length = pos := by simp; omega
        simp only [this]
        refine loopN_inr ?_
        dsimp only
        unfold F26.go516854
        simp only [arr_size, h0, h0', decide_true, cond_true, Int.toNat_natCast, get_at c, F34_what k0 hk0 old, ew, Option.bind_some]
        rfl
      | some b =>
        have s : F26.go516854 k0 pos old (arr l) o mask now op = some (.inl ((((pos + 1 : Nat) : Int), old, arr l, or' o b, mask, now, op, ()), (), ())) := by
          unfold F26.go516854
          simp only [arr_size, h0, h0', decide_true, cond_true, Int.toNat_natCast, get_at c, F34_what k0 hk0 old, F37_eq k0 ↑(l[pos]).toNat old (by rw [ew]; rfl), ew, Option.bind_some, wrap_id (n := (pos : Int) + 1) (by omega) (by omega)]
          rfl
        exact (loopN_inl s).trans (R51 hl k0 hk0 old mask now op k (pos + 1) (or' o b) c (by omega))
    · have : pos = l.length := Nat.le_antisymm h c
      subst this
      refine loopN_inr ?_
      dsimp only
      unfold F26.go516854
      simp only [arr_size, Int.lt_irrefl, decide_false, cond_false, List.drop_length]
      simp [scan]
theorem actS_drop {l : List UInt8} (hl : l.length ≤ 140737488351232) (op of old m : Int) (l : List UInt8) : (actS op of old m l).2 = l.drop (l.length - (actS op of old m l).2.length) := by
  cases l with
  | nil => rfl
  | cons c t =>
    rw [actS]
    cases copS m c.toNat with
    | none => exact scan_drop _ _ _
    | some b =>
      show t = (c :: t).drop (t.length + 1 - t.length)
      rw [show t.length + 1 - t.length = 1 by omega]; rfl
theorem R252_at {l : List UInt8} (hl : l.length ≤ 140737488351232) (k : Nat) (hk : 10 ≤ k) (hk' : l.length < k) (mask now old : Int) (pos : Nat) (h : pos < l.length) :
    F26.go252 k mask now (arr l) old pos = bif l[pos] == 43 || l[pos] == 45 || l[pos] == 61 then
        some (.inl ((mask, (actS (l[pos]).toNat mask old now (l.drop (pos + 1))).1, arr l, old, ((l.length - (actS (l[pos]).toNat mask old now (l.drop (pos + 1))).2.length : Nat) : Int), ()), (), ()))
      else some (.inr (.inl ((0, false, ()), (), ()))) := by
  have h0 : (pos : Int) < (l.length : Int) := by omega
  have h0' : (0 : Int) ≤ (pos : Int) := by omega
  have h1' : (0 : Int) ≤ ((pos + 1 : Nat) : Int) := by omega
  have hw : IntKind.i64.wrap ((pos : Int) + 1) = ((pos + 1 : Nat) : Int) := by rw [wrap_id (by omega) (by omega)]; rfl
  have L : F26.l_516854 k ((((pos + 1 : Nat) : Int), old, arr l, 0, mask, now, ↑(l[pos]).toNat, ()), (), ()) = _ := R51 hl k hk old mask now ↑(l[pos]).toNat k (pos + 1) 0 h (by omega)
  unfold F26.go252
  simp only [arr_size, h0, h0', decide_true, cond_true, Int.toNat_natCast, get_at h, F34_op k hk, Option.bind_some, hw, L, h1', F34_cop k hk now]
  cases e : (l[pos] == 43 || l[pos] == 45 || l[pos] == 61)
  · rfl
  · simp only [cond_true, cond_false]
    rcases Nat.lt_or_ge (pos + 1) l.length with c | c
    · have h2 : ((pos + 1 : Nat) : Int) < (l.length : Int) := by omega
      simp only [h2, decide_true, cond_true, get_at c]
      rw [drop_cons c, actS]
      have hn : l.length - (l.drop (pos + 1 + 1)).length = pos + 1 + 1 := by simp; omega
      have hw2 : IntKind.i64.wrap (((pos + 1 : Nat) : Int) + 1) = ((pos + 1 + 1 : Nat) : Int) := by rw [wrap_id (by omega) (by omega)]; rfl
      cases ec : copS now ↑(l[pos + 1]).toNat with
      | none =>
        simp only [Option.isSome_none, cond_false]
        unfold setS
        cases ((l[pos]).toNat : Int) == 43 <;> cases ((l[pos]).toNat : Int) == 45 <;> rfl
      | some b =>
        simp only [Option.isSome_some, cond_true, F36_eq k ↑(l[pos + 1]).toNat now (by rw [ec]; rfl), ec, hn, Option.bind_some, Option.getD_some, hw2]
        unfold setS
        cases ((l[pos]).toNat : Int) == 43 <;> cases ((l[pos]).toNat : Int) == 45 <;> rfl
    · have h2 : ¬ ((pos + 1 : Nat) : Int) < (l.length : Int) := by omega
      have hd : l.drop (pos + 1) = [] := List.drop_eq_nil_of_le c
      simp only [h2, decide_false, cond_false, hd, actS, scan]
      unfold setS
      cases ((l[pos]).toNat : Int) == 43 <;> cases ((l[pos]).toNat : Int) == 45 <;> rfl
theorem R252 {l : List UInt8} (hl : l.length ≤ 140737488351232) (hc : 44 ∉ l) (k0 : Nat) (hk0 : 10 ≤ k0) (hk0' : l.length < k0) (mask old : Int) : ∀ (n pos : Nat) (now : Int) (k : Nat), pos ≤ l.length → l.length - pos < n → n ≤ k →
    match acts mask old n (l.drop pos) now with
    | none => loopN (fun x => F26.go252 k0 x.fst.fst x.fst.snd.fst x.fst.snd.snd.fst x.fst.snd.snd.snd.fst x.fst.snd.snd.snd.snd.fst) k ((mask, now, arr l, old, (pos : Int), ()), (), ()) = some (.inl ((0, false, ()), (), ()))
    | some (m', r) => r = [] ∧ loopN (fun x => F26.go252 k0 x.fst.fst x.fst.snd.fst x.fst.snd.snd.fst x.fst.snd.snd.snd.fst x.fst.snd.snd.snd.snd.fst) k ((mask, now, arr l, old, (pos : Int), ()), (), ()) = some (.inr ((m', ()), (), ()))
  | 0, pos, now, k, h, hn, _ => absurd hn (Nat.not_lt_zero _)
  | n + 1, pos, now, 0, h, hn, hk => absurd hk (Nat.not_succ_le_zero _)
  | n + 1, pos, now, k + 1, h, hn, hk => by
    rcases Nat.lt_or_ge pos l.length with c | c
    · have S := R252_at hl k0 hk0 hk0' mask now old pos c
      have e44 : (l[pos] == 44) = false := by
        rw [beq_eq_false_iff_ne]; intro e; exact hc (e ▸ List.getElem_mem c)
      have hlen := actS_len (l[pos]).toNat mask old now (l.drop (pos + 1))
      have hdr := actS_drop hl (l[pos]).toNat mask old now (l.drop (pos + 1))
      rw [drop_cons c, acts, e44, cond_false]
      cases e : (l[pos] == 43 || l[pos] == 45 || l[pos] == 61) <;> rw [e] at S
      · exact loopN_inr S
      · simp only [cond_true]
        have hle : (l.drop (pos + 1)).length = l.length - (pos + 1) := List.length_drop
        have hd2 : (actS (l[pos]).toNat mask old now (l.drop (pos + 1))).2 = l.drop (l.length - (actS (l[pos]).toNat mask old now (l.drop (pos + 1))).2.length) := by
          rw [List.drop_drop] at hdr
          rw [show l.length - (actS (l[pos]).toNat mask old now (l.drop (pos + 1))).2.length = pos + 1 + ((l.drop (pos + 1)).length - (actS (l[pos]).toNat mask old now (l.drop (pos + 1))).2.length) by omega]
          exact hdr
        have I := R252 hl hc k0 hk0 hk0' mask old n (l.length - (actS (l[pos]).toNat mask old now (l.drop (pos + 1))).2.length) (actS (l[pos]).toNat mask old now (l.drop (pos + 1))).1 k (by omega) (by omega) (by omega)
        rw [← hd2] at I
        revert I
        cases acts mask old n (actS (l[pos]).toNat mask old now (l.drop (pos + 1))).2 (actS (l[pos]).toNat mask old now (l.drop (pos + 1))).1 with
        | none => intro I; exact (loopN_inl S).trans I
        | some y => intro I; exact ⟨I.1, (loopN_inl S).trans I.2⟩
    · have : pos = l.length := Nat.le_antisymm h c
      subst this
      rw [List.drop_length]
      refine ⟨rfl, loopN_inr ?_⟩
      dsimp only
      unfold F26.go252
      simp only [arr_size, Int.lt_irrefl, decide_false, cond_false]
theorem F26_eq {l : List UInt8} (hl : l.length ≤ 140737488351232) (hc : 44 ∉ l) (k : Nat) (hk : 10 ≤ k) (hk' : l.length + 2 ≤ k) (old now um : Int) :
    match clauseS old um l now with
    | none => F26.go k (arr l) old now um = some (((0, false, ()), ()), (), ())
    | some (m', r) => r = [] ∧ F26.go k (arr l) old now um = some (((m', true, ()), ()), (), ()) := by
  have L : F26.l_28 k ((0, arr l, 0, now, old, um, ()), (), ()) = _ := R28 hl k hk now old um k 0 0 (Nat.zero_le _) (by omega)
  rw [List.drop_zero] at L
  have hd := scan_drop whoS l 0
  have hlen := scan_len whoS l 0
  have hx : ((((l.length - (scan whoS l 0).2.length : Nat)) : Int) == 0) = ((scan whoS l 0).2.length == l.length) := by
    rw [Bool.eq_iff_iff, beq_iff_eq, beq_iff_eq]; omega
  have key : F26.go k (arr l) old now um = bif ((((l.length - (scan whoS l 0).2.length : Nat)) : Int) == (l.length : Int)) then some (((0, false, ()), ()), (), ()) else
      (F26.l_252 k ((bif (scan whoS l 0).2.length == l.length then andn' 4095 um else (scan whoS l 0).1, now, arr l, old, ((l.length - (scan whoS l 0).2.length : Nat) : Int), ()), (), ())).bind fun y6 =>
        Sum.elim (fun y7 => some (((y7.fst.fst, y7.fst.snd.fst, ()), ()), (), ())) (fun y7 => some (((y7.fst.fst, true, ()), ()), (), ())) y6 := by
    unfold F26.go
    rw [L]
    simp only [Option.bind_some, arr_size, hx]
    cases (scan whoS l 0).2.length == l.length <;> rfl
  rw [key, clauseS]
  generalize (bif (scan whoS l 0).2.length == l.length then andn' 4095 um else (scan whoS l 0).1) = of
  have A := R252 hl hc k hk (by omega) of old ((scan whoS l 0).2.length + 1) (l.length - (scan whoS l 0).2.length) now k (by omega) (by omega) (by omega)
  rw [← hd] at A
  revert A hd hlen
  cases (scan whoS l 0).2 with
  | nil =>
    intro hd hlen A
    have : (((l.length - ([] : List UInt8).length : Nat) : Int) == (l.length : Int)) = true := by simp
    rw [this]; rfl
  | cons d t =>
    intro hd hlen A
    have h1 : (((l.length - (d :: t).length : Nat) : Int) == (l.length : Int)) = false := by rw [beq_eq_false_iff_ne]; simp at hlen ⊢; omega
    have h2 : (d == 44) = false := by
      rw [beq_eq_false_iff_ne]; rintro rfl
      exact hc (List.mem_of_mem_drop (hd ▸ List.mem_cons_self))
    simp only [h1, h2, cond_false]
    revert A
    cases acts of old ((d :: t).length + 1) (d :: t) now with
    | none =>
      intro A
      have A' : F26.l_252 k ((of, now, arr l, old, ((l.length - (d :: t).length : Nat) : Int), ()), (), ()) = _ := A
      show Option.bind (F26.l_252 k _) _ = _
      rw [A']; rfl
    | some y =>
      intro A
      have A' : F26.l_252 k ((of, now, arr l, old, ((l.length - (d :: t).length : Nat) : Int), ()), (), ()) = _ := A.2
      refine ⟨A.1, ?_⟩
      show Option.bind (F26.l_252 k _) _ = _
      rw [A']; rfl
end Go.Proofs.Try.S

namespace Go.Proofs.Try.S
open Go Go.Ev
theorem scan_append (f : Int → Option Int) (hf : f 44 = none) (t : List UInt8) : ∀ (p : List UInt8) (a : Int), scan f (p ++ 44 :: t) a = ((scan f p a).1, (scan f p a).2 ++ 44 :: t)
  | [], a => by
    have : f (((44 : UInt8).toNat : Nat) : Int) = none := hf
    simp only [List.nil_append, scan, this]
  | c :: p, a => by
    simp only [List.cons_append, scan]
    cases f c.toNat with
    | none => rfl
    | some b => exact scan_append f hf t p _
theorem whatS_44 (old : Int) : whatS old 44 = none := rfl
theorem copS_44 (m : Int) : copS m 44 = none := rfl
theorem actS_append (op of old m : Int) (t p : List UInt8) : actS op of old m (p ++ 44 :: t) = ((actS op of old m p).1, (actS op of old m p).2 ++ 44 :: t) := by
  cases p with
  | nil =>
    have h1 : copS m (((44 : UInt8).toNat : Nat) : Int) = none := rfl
    have h2 : whatS old (((44 : UInt8).toNat : Nat) : Int) = none := rfl
    simp only [List.nil_append, actS, h1, scan, h2]
  | cons c p =>
    simp only [List.cons_append, actS]
    cases copS m c.toNat with
    | none =>
      have := scan_append (whatS old) (whatS_44 old) t (c :: p) 0
      rw [List.cons_append] at this
      simp only [this]
    | some b => rfl
theorem mem_scan {f : Int → Option Int} {l : List UInt8} {a : Int} (h : 44 ∉ l) : 44 ∉ (scan f l a).2 := by
  rw [scan_drop]; exact fun e => h (List.mem_of_mem_drop e)
theorem mem_actS {op of old m : Int} {l : List UInt8} (h : 44 ∉ l) : 44 ∉ (actS op of old m l).2 := by
  cases l with
  | nil => exact h
  | cons c t =>
    rw [actS]
    cases copS m c.toNat with
    | none => exact mem_scan h
    | some b => exact fun e => h (List.mem_cons_of_mem _ e)
theorem acts_append (of a : Int) (t : List UInt8) : ∀ (n n' : Nat) (p : List UInt8) (m : Int), 44 ∉ p → p.length < n → p.length < n' →
    acts of a n (p ++ 44 :: t) m = (acts of a n' p m).map fun y => (y.1, 44 :: t)
  | 0, n', p, m, _, h, _ => absurd h (Nat.not_lt_zero _)
  | n + 1, 0, p, m, _, _, h => absurd h (Nat.not_lt_zero _)
  | n + 1, n' + 1, [], m, _, _, _ => rfl
  | n + 1, n' + 1, c :: p, m, hc, h, h' => by
    have e44 : (c == 44) = false := by rw [beq_eq_false_iff_ne]; rintro rfl; exact hc List.mem_cons_self
    have hp : 44 ∉ p := fun e => hc (List.mem_cons_of_mem _ e)
    have hl := actS_len c.toNat of a m p
    simp at h h'
    simp only [List.cons_append, acts, e44, cond_false, actS_append]
    rw [acts_append of a t n n' _ _ (mem_actS hp) (by omega) (by omega)]
    cases (c == 43 || c == 45 || c == 61) <;> rfl
theorem acts_nil (of a : Int) : ∀ (n : Nat) (p : List UInt8) (m m' : Int) (r : List UInt8), 44 ∉ p → acts of a n p m = some (m', r) → r = []
  | 0, p, m, m', r, _, h => by cases h
  | n + 1, [], m, m', r, _, h => by injection h with h; cases h; rfl
  | n + 1, c :: p, m, m', r, hc, h => by
    have e44 : (c == 44) = false := by rw [beq_eq_false_iff_ne]; rintro rfl; exact hc List.mem_cons_self
    have hp : 44 ∉ p := fun e => hc (List.mem_cons_of_mem _ e)
    rw [acts, e44, cond_false] at h
    revert h
    cases (c == 43 || c == 45 || c == 61)
    · intro h; cases h
    · intro h; exact acts_nil of a n _ _ m' r (mem_actS hp) h
theorem clauseS_append (a u m : Int) (t p : List UInt8) (hc : 44 ∉ p) : clauseS a u (p ++ 44 :: t) m = (clauseS a u p m).map fun y => (y.1, 44 :: t) := by
  have hw := mem_scan (f := whoS) (a := 0) hc
  rw [clauseS, clauseS, scan_append whoS rfl]
  have e : (((scan whoS p 0).2 ++ 44 :: t).length == (p ++ 44 :: t).length) = ((scan whoS p 0).2.length == p.length) := by
    rw [Bool.eq_iff_iff, beq_iff_eq, beq_iff_eq]; simp
  dsimp only
  rw [e]
  generalize (bif (scan whoS p 0).2.length == p.length then andn' 4095 u else (scan whoS p 0).1) = of
  revert hw
  cases (scan whoS p 0).2 with
  | nil => intro _; rfl
  | cons d q =>
    intro hw
    have e44 : (d == 44) = false := by rw [beq_eq_false_iff_ne]; rintro rfl; exact hw List.mem_cons_self
    simp only [List.cons_append, e44, cond_false]
    exact acts_append of a t _ _ (d :: q) m hw (by simp; omega) (by simp)
theorem clauseS_nil {a u m m' : Int} {p r : List UInt8} (hc : 44 ∉ p) (h : clauseS a u p m = some (m', r)) : r = [] := by
  have hw := mem_scan (f := whoS) (a := 0) hc
  rw [clauseS] at h
  revert h hw
  generalize (bif (scan whoS p 0).2.length == p.length then andn' 4095 u else (scan whoS p 0).1) = of
  cases (scan whoS p 0).2 with
  | nil => intro h; simp at h
  | cons d q =>
    intro h hw
    have e44 : (d == 44) = false := by rw [beq_eq_false_iff_ne]; rintro rfl; exact hw List.mem_cons_self
    simp only [e44, cond_false] at h
    exact acts_nil of a _ _ _ _ _ hw h
def refS (old um : Int) : List UInt8 → List UInt8 → Int → Option Int
  | part, [], now => (clauseS old um part now).map (·.1)
  | part, c :: rem, now => bif c == 44 then (match clauseS old um part now with
    | none => none
    | some y => refS old um [] rem y.1) else refS old um (part ++ [c]) rem now
theorem refS_eq (old um : Int) : ∀ (rem part : List UInt8) (now : Int) (n : Nat), 44 ∉ part → (part ++ rem).length < n → refS old um part rem now = changeS old um n (part ++ rem) now
  | _, _, _, 0, _, h => absurd h (Nat.not_lt_zero _)
  | [], part, now, n + 1, hc, h => by
    rw [refS, List.append_nil, changeS]
    cases e : clauseS old um part now with
    | none => rfl
    | some y =>
      obtain ⟨m', r⟩ := y
      have := clauseS_nil hc e
      subst this
      rfl
  | c :: rem, part, now, n + 1, hc, h => by
    rw [refS]
    cases e : c == 44
    · rw [cond_false, refS_eq old um rem (part ++ [c]) now (n + 1) (by
        intro m; rw [List.mem_append] at m
        rcases m with m | m
        · exact hc m
        · rw [List.mem_singleton] at m; subst m; cases e) (by simp at h ⊢; omega)]
      simp
    · rw [beq_iff_eq] at e
      subst e
      rw [cond_true, changeS, clauseS_append old um now rem part hc]
      cases clauseS old um part now with
      | none => rfl
      | some y =>
        simp only [Option.map_some]
        have := refS_eq old um rem [] y.1 n (by simp) (by simp at h ⊢; omega)
        rw [this]; rfl
theorem F8_at (k : Nat) (hk : 10 ≤ k) {l part : List UInt8} (hl : l.length ≤ 140737488351232) (hp : part.length ≤ 140737488351232) (um now old kind : Int) (pos : Nat) (h : pos < l.length) (e : (l[pos] == 44) = false) :
    F8.go506 k pos (arr l) (arr part) um now old kind = some (.inl ((((pos + 1 : Nat) : Int), arr l, arr (part ++ [l[pos]]), um, now, old, kind, ()), (), ())) := by
  have h0 : (pos : Int) < (l.length : Int) := by omega
  have h0'' : (pos : Int) ≤ (l.length : Int) := by omega
  have h0' : (0 : Int) ≤ (pos : Int) := by omega
  have h1 : (0 : Int) ≤ ((pos + 1 : Nat) : Int) := by omega
  have h2 : ((pos + 1 : Nat) : Int) ≤ (l.length : Int) := by omega
  have h3 : (pos : Int) ≤ ((pos + 1 : Nat) : Int) := by omega
  have hw : IntKind.i64.wrap ((pos : Int) + 1) = ((pos + 1 : Nat) : Int) := by rw [wrap_id (by omega) (by omega)]; rfl
  have hx : (arr l).extract pos (pos + 1) = arr [l[pos]] := by
    rw [arr_extract, drop_cons h, show pos + 1 - pos = 1 by omega]; rfl
  have e' : ((l[pos]).toNat : Int) != 44 := by
    have := u8_beq (l[pos]) 44
    rw [e] at this
    simp only [bne, Bool.not_eq_true']; exact this
  have hs : part.length + [l[pos]].length ≤ 9223372036854775807 := by simp; omega
  unfold F8.go506
  simp only [arr_size, h0, h0', h0'', decide_true, cond_true, Int.toNat_natCast, get_at h, e', hw, h1, h2, h3, hx, hs, arr_append]
theorem F8_cut (k : Nat) (hk : 10 ≤ k) {l part : List UInt8} (hl : l.length ≤ 140737488351232) (hp : part.length + 2 ≤ k) (hp' : part.length ≤ 140737488351232) (hc : 44 ∉ part) (um now old kind : Int) (pos : Nat) (h : pos ≤ l.length) (e : ∀ h : pos < l.length, l[pos] = 44) :
    F8.go506 k pos (arr l) (arr part) um now old kind = match clauseS old um part now with
      | none => some (.inr (.inl ((0, 22, ()), (), ())))
      | some y => some (.inl ((((pos + 1 : Nat) : Int), arr l, arr [], um, y.1, old, kind, ()), (), ())) := by
  have h0' : (0 : Int) ≤ (pos : Int) := by omega
  have h0'' : (pos : Int) ≤ (l.length : Int) := by omega
  have hw : IntKind.i64.wrap ((pos : Int) + 1) = ((pos + 1 : Nat) : Int) := by rw [wrap_id (by omega) (by omega)]; rfl
  have R := F26_eq hp' hc k hk (by omega) old now um
  unfold F8.go506
  revert R
  cases clauseS old um part now with
  | none =>
    intro R
    rcases Nat.lt_or_ge pos l.length with c | c
    · have h0 : (pos : Int) < (l.length : Int) := by omega
      simp only [arr_size, h0, h0', h0'', decide_true, cond_true, Int.toNat_natCast, get_at c, e c]
      simp only at R
      rw [R]; rfl
    · have h0 : ¬ (pos : Int) < (l.length : Int) := by omega
      simp only [arr_size, h0, h0', h0'', decide_true, cond_true, decide_false, cond_false]
      simp only at R
      rw [R]; rfl
  | some y =>
    intro R
    rcases Nat.lt_or_ge pos l.length with c | c
    · have h0 : (pos : Int) < (l.length : Int) := by omega
      simp only [arr_size, h0, h0', h0'', decide_true, cond_true, Int.toNat_natCast, get_at c, e c]
      rw [R.2]
      simp only [hw]
      rfl
    · have h0 : ¬ (pos : Int) < (l.length : Int) := by omega
      simp only [arr_size, h0, h0', h0'', decide_true, cond_true, decide_false, cond_false]
      rw [R.2]
      simp only [hw]
      rfl
theorem F8_end (k : Nat) {l : List UInt8} (part : ByteArray) (um now old kind : Int) : F8.go506 k ((l.length + 1 : Nat) : Int) (arr l) part um now old kind = some (.inr (.inr ((now, kind, ()), (), ()))) := by
  have h : ¬ ((l.length + 1 : Nat) : Int) ≤ (l.length : Int) := by omega
  unfold F8.go506
  simp only [arr_size, h, decide_false, cond_false]
theorem F8l (k0 : Nat) {l : List UInt8} (hl : l.length ≤ 140737488351232) (hk0 : l.length + 12 ≤ k0) (um old kind : Int) : ∀ (k pos : Nat) (part : List UInt8) (now : Int), pos ≤ l.length → l.length - pos + 1 < k → 44 ∉ part → part.length ≤ pos →
    loopN (fun x => F8.go506 k0 x.fst.fst x.fst.snd.fst x.fst.snd.snd.fst x.fst.snd.snd.snd.fst x.fst.snd.snd.snd.snd.fst x.fst.snd.snd.snd.snd.snd.fst x.fst.snd.snd.snd.snd.snd.snd.fst) k
      (((pos : Int), arr l, arr part, um, now, old, kind, ()), (), ()) = match refS old um part (l.drop pos) now with
      | none => some (.inl ((0, 22, ()), (), ()))
      | some m => some (.inr ((m, kind, ()), (), ()))
  | 0, pos, part, now, h, hk, _, _ => absurd hk (Nat.not_lt_zero _)
  | k + 1, pos, part, now, h, hk, hc, hp => by
    rcases Nat.lt_or_ge pos l.length with c | c
    · rw [drop_cons c, refS]
      cases e : l[pos] == 44
      · have s := F8_at k0 (by omega) hl (by omega) (part := part) um now old kind pos c e
        refine (loopN_inl s).trans ?_
        exact F8l k0 hl hk0 um old kind k (pos + 1) (part ++ [l[pos]]) now c (by omega) (by
          intro m; rw [List.mem_append] at m
          rcases m with m | m
          · exact hc m
          · rw [List.mem_singleton] at m; rw [← m] at e; cases e) (by simp; omega)
      · have s := F8_cut k0 (by omega) hl (part := part) (by omega) (by omega) hc um now old kind pos h (fun _ => beq_iff_eq.1 e)
        revert s
        simp only [cond_true]
        cases clauseS old um part now with
        | none => intro s; exact loopN_inr s
        | some y => intro s; exact (loopN_inl s).trans (F8l k0 hl hk0 um old kind k (pos + 1) [] y.1 c (by omega) (by simp) (by simp))
    · have : pos = l.length := Nat.le_antisymm h c
      subst this
      rw [List.drop_length, refS]
      have s := F8_cut k0 (by omega) hl (part := part) (by omega) (by omega) hc um now old kind l.length h (fun h => absurd h (Nat.lt_irrefl _))
      revert s
      cases clauseS old um part now with
      | none => intro s; exact loopN_inr s
      | some y =>
        intro s
        obtain ⟨j, rfl⟩ : ∃ j, k = j + 1 := ⟨k - 1, by omega⟩
        exact (loopN_inl s).trans (loopN_inr (F8_end k0 (arr []) um y.1 old kind))
theorem and_and (x : Int) (c d e : BitVec (IntKind.bits .i64)) (h : c &&& d = e) : and' (and' x c.toInt) d.toInt = and' x e.toInt := by
  unfold and'
  simp only [wB, oB, BitVec.and_assoc, h]
theorem mask1 (x : Int) : and' (and' x 65535) 61440 = and' x 61440 := and_and x 65535#64 61440#64 61440#64 rfl
theorem mask2 (x : Int) : and' (and' x 65535) 4095 = and' x 4095 := and_and x 65535#64 4095#64 4095#64 rfl
theorem mask3 (x : Int) : and' (and' x 65535) 73 = and' x 73 := and_and x 65535#64 73#64 73#64 rfl
theorem whatS_mask (x : Int) : whatS (and' x 65535) = whatS x := by
  funext c
  simp only [whatS, mask1, mask3]
theorem actS_mask (op of x m : Int) (l : List UInt8) : actS op of (and' x 65535) m l = actS op of x m l := by
  cases l with
  | nil => rfl
  | cons c t => simp only [actS, whatS_mask]
theorem acts_mask (of x : Int) : ∀ (n : Nat) (l : List UInt8) (m : Int), acts of (and' x 65535) n l m = acts of x n l m
  | 0, l, m => rfl
  | n + 1, [], m => rfl
  | n + 1, c :: t, m => by simp only [acts, actS_mask, acts_mask of x n]
theorem clauseS_mask (x u : Int) (l : List UInt8) (m : Int) : clauseS (and' x 65535) u l m = clauseS x u l m := by
  simp only [clauseS, acts_mask]
theorem changeS_mask (x u : Int) : ∀ (n : Nat) (l : List UInt8) (m : Int), changeS (and' x 65535) u n l m = changeS x u n l m
  | 0, l, m => rfl
  | n + 1, l, m => by simp only [changeS, clauseS_mask, changeS_mask x u n]
theorem F8_eq (k : Nat) (l : List UInt8) (hl : l.length ≤ 140737488351232) (hk : l.length + 12 ≤ k) (old um : Int) :
    F8.go k (arr l) old um = some ((((ChangeS l old um).1, (ChangeS l old um).2, ()), ()), (), ()) := by
  unfold F8.go ChangeS
  rw [F25_eq k (by omega)]
  simp only [Option.bind_some, mask1, mask2, changeS_mask]
  cases octalS l with
  | some n => rfl
  | none =>
    have L : F8.l_506 k ((0, arr l, arr [], um, and' old 4095, old, and' old 61440, ()), (), ()) = _ := F8l k hl hk um old (and' old 61440) k 0 [] (and' old 4095) (Nat.zero_le _) (by omega) (by simp) (by simp)
    rw [List.drop_zero, refS_eq old um l [] (and' old 4095) (l.length + 1) (by simp) (by simp)] at L
    simp only [Option.isSome_none, cond_false]
    have L' : F8.l_506 k ((0, arr l, ByteArray.mk ⟨[]⟩, um, and' old 4095, old, and' old 61440, ()), (), ()) = _ := L
    rw [L', List.nil_append]
    cases changeS old um (l.length + 1) l (and' old 4095) <;> rfl
theorem F3_eq (k : Nat) (hlives : F9.go k = some ((true, ()), (), ())) (l : List UInt8) (hl : l.length ≤ 140737488351232) (hk : l.length + 12 ≤ k) (old um : Int) :
    F3.go k (arr l) old um = some ((true, ()), (), ()) := by
  unfold F3.go
  rw [F7_eq k l hl (by omega), F8_eq k l hl hk, hlives]
  simp only [Option.bind_some, beq_self_eq_true, cond_true]
theorem lives (j : Nat) : F9.go (j + 40) = some ((true, ()), (), ()) := by kernel_rfl
theorem permChanges (a0 : ByteArray) (a1 a2 : Int) (h : a0.size ≤ 140737488351232) : ∃ k, F3.go k a0 a1 a2 = some ((true, ()), (), ()) :=
  ⟨a0.data.toList.length + 40, F3_eq _ (lives _) a0.data.toList h (by omega) a1 a2⟩
end Go.Proofs.Try.S

