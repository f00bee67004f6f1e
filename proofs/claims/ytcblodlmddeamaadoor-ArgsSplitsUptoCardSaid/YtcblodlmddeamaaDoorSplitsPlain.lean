/- The plain law: what the functions that the law compares make is the same, over lists and numbers alone. -/
import Derived.Test.YtcblodlmddeamaaDoorSplitsWalk
import Derived.Test.YtcblodlmddeamaaDoorEv4
set_option linter.unusedVariables false
set_option linter.unusedSimpArgs false
set_option linter.unusedSectionVars false
set_option maxRecDepth 100000
namespace Go.Proofs.Tryd.S
open Go Go.Ev
theorem loopN_inr {A B : Type} {f : A → Option (A ⊕ B)} {k : Nat} {x : A} {y : B} (h : f x = some (.inr y)) : loopN f (k + 1) x = some y := by
  unfold loopN; rw [h]
theorem loopN_inl {A B : Type} {f : A → Option (A ⊕ B)} {k : Nat} {x x' : A} (h : f x = some (.inl x')) : loopN f (k + 1) x = loopN f k x' := by
  rw [loopN, h]
theorem drop_int {α : Type} {l : List α} {i : Nat} (h : i < l.length) : l.drop i = l[i] :: l.drop (i + 1) := List.drop_eq_getElem_cons h
theorem ble1 {n : Nat} (h : n ≤ 8000000) : (Nat.ble (n * 1) 140737488355328 && Nat.ble n 9223372036854775807) = true := by
  rw [Nat.ble_eq_true_of_le (by omega), Nat.ble_eq_true_of_le (by omega)]; rfl
theorem ble16 {n : Nat} (h : n ≤ 8000000) : (Nat.ble (n * 16) 140737488355328 && Nat.ble n 9223372036854775807) = true := by
  rw [Nat.ble_eq_true_of_le (by omega), Nat.ble_eq_true_of_le (by omega)]; rfl
/-! ### words, over lists -/
def partB (c : Int) : Bool := bif c == 32 then true else bif c == 9 then true else c == 10
/-- in a quote: the word, and what stands behind -/
def qscan (q : Int) : List Int → List Int → Option (List Int × List Int)
  | w, [] => none
  | w, c :: r => bif c == q then some (w, r) else bif c == 10 then none else qscan q (w ++ [c]) r
theorem qscan_len {q : Int} : ∀ {w l w' l' : List Int}, qscan q w l = some (w', l') → l'.length < l.length ∧ w'.length + l'.length < w.length + l.length
  | w, [], w', l', h => by cases h
  | w, c :: r, w', l', h => by
    simp only [qscan] at h
    cases h1 : c == q <;> rw [h1] at h <;> simp only [cond_true, cond_false] at h
    · cases h2 : c == 10 <;> rw [h2] at h <;> simp only [cond_true, cond_false] at h
      · have := qscan_len h
        simp only [List.length_append, List.length_cons, List.length_nil] at this ⊢
        omega
      · cases h
    · injection h with h; injection h with h3 h4; subst h3; subst h4
      simp only [List.length_cons]; omega
def endW (op : Bool) (ws : List ByteArray) (w : List Int) : List ByteArray := bif op then ws ++ [strOf w] else ws
/-- all of it -/
def aut : Nat → Bool → List ByteArray → List Int → List Int → Option (Bool × List ByteArray × List Int)
  | 0, _, _, _, _ => none
  | f + 1, op, ws, w, [] => some (op, ws, w)
  | f + 1, op, ws, w, c :: r =>
    bif partB c then aut f false (endW op ws w) [] r
    else bif c == 39 || c == 34 then (match qscan c w r with | none => none | some (w', r') => aut f true ws w' r')
    else bif c == 92 then (match r with | [] => none | d :: r' => aut f true ws (w ++ [d]) r')
    else aut f true ws (w ++ [c]) r
/-! ### the program's loops -/
theorem bne_int {a b : Int} (h : a ≠ b) : (a != b) = true := by simp [bne, h]
theorem q_loop (k0 : Nat) (whole b : List Int) (off : Nat) (hget : ∀ (i : Nat) (h : i < b.length), whole.getD (off + i) 0 = b[i]) (hb : b.length ≤ 4000000) (q : Int) (hq : q ≠ 10) (op : Bool) (ws : List ByteArray) : ∀ (k i : Nat) (w : List Int), i ≤ b.length → b.length - i < k → w.length ≤ i →
    ∃ (j : Nat) (w' : List Int), i ≤ j ∧ j ≤ b.length ∧ w'.length ≤ j ∧ loopN (F10.s3639804 k0) k (F10.i3639804 i (off, b.length) q whole op ws w) = some (F10.r3639804 (off, b.length) j whole op ws w') ∧
      ((j = b.length ∧ qscan q w (b.drop i) = none) ∨ (∃ h : j < b.length, b[j] = 10 ∧ qscan q w (b.drop i) = none) ∨ (∃ h : j < b.length, b[j] ≠ 10 ∧ qscan q w (b.drop i) = some (w', b.drop (j + 1))))
  | 0, i, w, _, hk, _ => absurd hk (Nat.not_lt_zero _)
  | k + 1, i, w, hi, hk, hw => by
    rcases Nat.lt_or_ge i b.length with c | c
    · have h0 : (i : Int) < (b.length : Int) := by omega
      have h0' : (0 : Int) ≤ (i : Int) := by omega
      have hg := hget i c
      rw [drop_int c]
      by_cases e1 : b[i] = q
      · refine ⟨i, w, Nat.le_refl _, hi, hw, loopN_inr ?_, .inr (.inr ⟨c, by rw [e1]; exact hq, by simp [qscan, e1]⟩)⟩
        unfold F10.s3639804 F10.go3639804
        simp only [h0, h0', decide_true, cond_true, Bool.and_self, Int.toNat_natCast, hg, e1, bne_self_eq_false, cond_false]
      · by_cases e2 : b[i] = 10
        · refine ⟨i, w, Nat.le_refl _, hi, hw, loopN_inr ?_, .inr (.inl ⟨c, e2, by
            have : ((10 : Int) == q) = false := by simp; exact fun h => hq h.symm
            simp [qscan, e2, this]⟩)⟩
          unfold F10.s3639804 F10.go3639804
          simp only [h0, h0', decide_true, cond_true, Bool.and_self, Int.toNat_natCast, hg, bne_int e1, e2, bne_self_eq_false, cond_false]
          rw [bne_int (fun h => hq h.symm)]; rfl
        · have s : F10.s3639804 k0 (F10.i3639804 i (off, b.length) q whole op ws w) = some (.inl (F10.i3639804 ((i + 1 : Nat) : Int) (off, b.length) q whole op ws (w ++ [b[i]]))) := by
            unfold F10.s3639804 F10.go3639804
            have hl : (w ++ [b[i]]).length ≤ 8000000 := by simp; omega
            simp only [h0, h0', decide_true, cond_true, Bool.and_self, Int.toNat_natCast, hg, bne_int e1, bne_int e2, ble1 hl, wrap_id (n := (i : Int) + 1) (by omega) (by omega)]
            rfl
          obtain ⟨j, w', h1, h2, h3, h4, h5⟩ := q_loop k0 whole b off hget hb q hq op ws k (i + 1) (w ++ [b[i]]) c (by omega) (by simp; omega)
          have e3 : qscan q w (b[i] :: b.drop (i + 1)) = qscan q (w ++ [b[i]]) (b.drop (i + 1)) := by
            have e1' : (b[i] == q) = false := by simp [e1]
            have e2' : (b[i] == 10) = false := by simp [e2]
            simp only [qscan, e1', e2', cond_false]
          rw [e3]
          exact ⟨j, w', by omega, h2, h3, (loopN_inl s).trans h4, h5⟩
    · have : i = b.length := Nat.le_antisymm hi c
      subst this
      refine ⟨b.length, w, Nat.le_refl _, Nat.le_refl _, hw, loopN_inr ?_, .inl ⟨rfl, by rw [List.drop_length]; rfl⟩⟩
      unfold F10.s3639804 F10.go3639804
      simp only [Int.lt_irrefl, decide_false, cond_false]
end Go.Proofs.Tryd.S

namespace Go.Proofs.Tryd.S
open Go Go.Ev
theorem F35_eq (k : Nat) (op : Bool) (ws : List ByteArray) (w : List Int) (h : ws.length ≤ 4000000) : F35.go k op ws w = some (F35.r_0 false w (endW op ws w)) := by
  unfold F35.go endW
  cases op
  · rfl
  · simp only [cond_true]
    rw [ble16 (by simp; omega)]; rfl
theorem partB_iff (c : Int) : partB c = true ↔ c = 32 ∨ c = 9 ∨ c = 10 := by
  unfold partB
  by_cases h1 : c = 32
  · simp [h1]
  · have e1 : (c == 32) = false := by simp [h1]
    by_cases h2 : c = 9
    · simp [h2]
    · have e2 : (c == 9) = false := by simp [h2]
      simp [e1, e2, h1, h2]
section
variable (k0 : Nat) (whole b : List Int) (off : Nat) (op : Bool) (ws : List ByteArray) (w : List Int)
theorem G_blank (i1 c : Int) (h : ws.length ≤ 4000000) : F10.go454965 k0 true (off, b.length) i1 c c whole op ws w = some (F10.r454965_0 (off, b.length) i1 whole false (endW op ws w)) := by
  unfold F10.go454965
  simp only [cond_true, F35_eq k0 op ws w h, Option.bind_some]
  rfl
theorem G_quote (i1 c : Int) (hc : c = 39 ∨ c = 34) : F10.go454965 k0 false (off, b.length) i1 c c whole op ws w = some (F10.r454965_1 i1 (off, b.length) c whole true ws w) := by
  unfold F10.go454965
  rcases hc with rfl | rfl <;> rfl
theorem G_end (i1 : Int) (h : i1 = (b.length : Int)) : F10.go454965 k0 false (off, b.length) i1 92 92 whole op ws w = some (F10.r454965_2 100 whole) := by
  subst h
  unfold F10.go454965
  have : (((b.length : Nat) : Int) == ((b.length : Nat) : Int)) = true := by simp
  simp only [cond_false, this, cond_true]
  rfl
theorem G_bs (i : Nat) (h : i < b.length) (hb : b.length ≤ 4000000) (hg : whole.getD (off + i) 0 = b[i]) : F10.go454965 k0 false (off, b.length) (i : Int) 92 92 whole op ws w = some (F10.r454965_3 (off, b.length) ((i + 1 : Nat) : Int) b[i] whole op ws w) := by
  have e1 : ((i : Int) == (b.length : Int)) = false := by
    have : (i : Int) ≠ (b.length : Int) := by omega
    simp [this]
  have h0 : (i : Int) < (b.length : Int) := by omega
  have h0' : (0 : Int) ≤ (i : Int) := by omega
  have e39 : ((92 : Int) == 39) = false := rfl
  have e34 : ((92 : Int) == 34) = false := rfl
  have e92 : ((92 : Int) == 92) = true := rfl
  unfold F10.go454965
  simp only [cond_false, cond_true, e39, e34, e92, e1, h0, h0', decide_true, Bool.and_self, Int.toNat_natCast, hg, wrap_id (n := (i : Int) + 1) (by omega) (by omega)]
  rfl
theorem G_other (i1 c : Int) (h1 : c ≠ 39) (h2 : c ≠ 34) (h3 : c ≠ 92) : F10.go454965 k0 false (off, b.length) i1 c c whole op ws w = some (F10.r454965_3 (off, b.length) i1 c whole op ws w) := by
  have e39 : (c == 39) = false := by simp [h1]
  have e34 : (c == 34) = false := by simp [h2]
  have e92 : (c == 92) = false := by simp [h3]
  unfold F10.go454965
  simp only [cond_false, e39, e34, e92]
end
/-- a quote, to its end -/
theorem q_pass (k0 : Nat) (whole b : List Int) (off : Nat) (hget : ∀ (i : Nat) (h : i < b.length), whole.getD (off + i) 0 = b[i]) (hb : b.length ≤ 4000000) (hk0 : b.length < k0) (q : Int) (hq : q ≠ 10) (op : Bool) (ws : List ByteArray) (i : Nat) (w : List Int) (hi : i ≤ b.length) (hw : w.length ≤ i) :
    (qscan q w (b.drop i) = none ∧ F10.l_454975 k0 (F10.i454975 i (off, b.length) q whole op ws w) = some (F10.r454975_0 100 whole)) ∨
    (∃ (j : Nat) (w' : List Int) (x1 : Bool) (x2 x3 : Int), i ≤ j ∧ j < b.length ∧ w'.length ≤ j ∧ qscan q w (b.drop i) = some (w', b.drop (j + 1)) ∧
      F10.l_454975 k0 (F10.i454975 i (off, b.length) q whole op ws w) = some (F10.r454975_1 (off, b.length) x1 x2 (off, b.length) x3 ((j + 1 : Nat) : Int) whole op ws w')) := by
  obtain ⟨j, w', h1, h2, h3, h4, h5⟩ := q_loop k0 whole b off hget hb q hq op ws k0 i w hi (by omega) hw
  obtain ⟨k1, rfl⟩ : ∃ k1, k0 = k1 + 1 := ⟨k0 - 1, by omega⟩
  have hl : F10.l_3639804 (k1 + 1) (F10.i3639804 i (off, b.length) q whole op ws w) = some (F10.r3639804 (off, b.length) j whole op ws w') := h4
  have hl' : F10.l_3639804 (k1 + 1) (((i : Int), ((off, b.length).1, (off, b.length).2), (), q, ()), (whole, ((), (), op, ()), ws, w, ()), ()) = some (F10.r3639804 (off, b.length) j whole op ws w') := h4
  rcases h5 with ⟨e, h6⟩ | ⟨c, e, h6⟩ | ⟨c, e, h6⟩
  · refine .inl ⟨h6, loopN_inr ?_⟩
    subst e
    have e1 : (((b.length : Nat) : Int) == ((b.length : Nat) : Int)) = true := by simp
    unfold F10.s454975 F10.go454975
    simp only [hl', Option.bind_some, e1, cond_true]
  · refine .inl ⟨h6, loopN_inr ?_⟩
    have e1 : ((j : Int) == (b.length : Int)) = false := by
      have : (j : Int) ≠ (b.length : Int) := by omega
      simp [this]
    have h0 : (j : Int) < (b.length : Int) := by omega
    have h0' : (0 : Int) ≤ (j : Int) := by omega
    have e2 : ((10 : Int) == 10) = true := rfl
    unfold F10.s454975 F10.go454975
    simp only [hl', Option.bind_some, e1, cond_false, h0, h0', decide_true, cond_true, Bool.and_self, Int.toNat_natCast, hget j c, e, e2]
  · refine .inr ⟨j, w', false, b[j], j, h1, c, h3, h6, loopN_inr ?_⟩
    have e1 : ((j : Int) == (b.length : Int)) = false := by
      have : (j : Int) ≠ (b.length : Int) := by omega
      simp [this]
    have h0 : (j : Int) < (b.length : Int) := by omega
    have h0' : (0 : Int) ≤ (j : Int) := by omega
    have e2 : (b[j] == (10 : Int)) = false := by simp [e]
    unfold F10.s454975 F10.go454975
    simp only [hl', Option.bind_some, e1, cond_false, h0, h0', decide_true, cond_true, Bool.and_self, Int.toNat_natCast, hget j c, e2, wrap_id (n := (j : Int) + 1) (by omega) (by omega)]
    rfl
end Go.Proofs.Tryd.S

namespace Go.Proofs.Tryd.S
open Go Go.Ev
def outM (whole : List Int) : Option (Bool × List ByteArray × List Int) → (((Unit × Int × Unit) × (List Int × Unit) × Unit) ⊕ ((Unit × Unit) × (List Int × (Unit × Unit × Bool × Unit) × List ByteArray × List Int × Unit) × Unit))
  | none => F10.r444_0 100 whole
  | some (op, ws, w) => F10.r444_1 whole op ws w
theorem m_loop (k0 : Nat) (whole b : List Int) (off : Nat) (hget : ∀ (i : Nat) (h : i < b.length), whole.getD (off + i) 0 = b[i]) (hb : b.length ≤ 4000000) (hk0 : b.length < k0) : ∀ (k f i : Nat) (op : Bool) (ws : List ByteArray) (w : List Int),
    i ≤ b.length → b.length - i < k → b.length - i < f → ws.length ≤ i → w.length ≤ i →
    loopN (F10.s444 k0) k (F10.i444 (off, b.length) i whole op ws w) = some (outM whole (aut f op ws w (b.drop i)))
  | 0, f, i, op, ws, w, _, hk, _, _, _ => absurd hk (Nat.not_lt_zero _)
  | k + 1, 0, i, op, ws, w, _, _, hf, _, _ => absurd hf (Nat.not_lt_zero _)
  | k + 1, f + 1, i, op, ws, w, hi, hk, hf, hws, hw => by
    rcases Nat.lt_or_ge i b.length with c | c
    · have h0 : (i : Int) < (b.length : Int) := by omega
      have h0' : (0 : Int) ≤ (i : Int) := by omega
      have hg := hget i c
      have hwr : IntKind.i64.wrap ((i : Int) + 1) = ((i + 1 : Nat) : Int) := by rw [wrap_id (by omega) (by omega)]; rfl
      rw [drop_int c]
      generalize hx : b[i] = x at *
      by_cases hp : partB x = true
      · have hG := G_blank k0 whole b off op ws w ((i + 1 : Nat) : Int) x (by omega)
        have s : F10.s444 k0 (F10.i444 (off, b.length) i whole op ws w) = some (.inl (F10.i444 (off, b.length) ((i + 1 : Nat) : Int) whole false (endW op ws w) [])) := by
          unfold F10.s444 F10.go444
          rcases (partB_iff x).1 hp with rfl | rfl | rfl
          · have e : ((32 : Int) == 32) = true := rfl
            simp only [h0, h0', decide_true, cond_true, Bool.and_self, Int.toNat_natCast, hg, e, hwr, hG, Option.bind_some, Sum.elim_inl]
          · have e : ((9 : Int) == 32) = false := rfl
            have e2 : ((9 : Int) == 9) = true := rfl
            simp only [h0, h0', decide_true, cond_true, cond_false, Bool.and_self, Int.toNat_natCast, hg, e, e2, hwr, hG, Option.bind_some, Sum.elim_inl]
          · have e : ((10 : Int) == 32) = false := rfl
            have e2 : ((10 : Int) == 9) = false := rfl
            have e3 : ((10 : Int) == 10) = true := rfl
            simp only [h0, h0', decide_true, cond_true, cond_false, Bool.and_self, Int.toNat_natCast, hg, e, e2, e3, hwr, hG, Option.bind_some, Sum.elim_inl]
        have hl : (endW op ws w).length ≤ i + 1 := by unfold endW; cases op <;> simp <;> omega
        have h1 := m_loop k0 whole b off hget hb hk0 k f (i + 1) false (endW op ws w) [] c (by omega) (by omega) hl (by simp)
        rw [loopN_inl s, h1]
        simp only [aut, hp, cond_true]
      · have hpf : partB x = false := by simpa using hp
        have n32 : x ≠ 32 := fun h => hp ((partB_iff x).2 (.inl h))
        have n9 : x ≠ 9 := fun h => hp ((partB_iff x).2 (.inr (.inl h)))
        have n10 : x ≠ 10 := fun h => hp ((partB_iff x).2 (.inr (.inr h)))
        have e32 : (x == 32) = false := by simp [n32]
        have e9 : (x == 9) = false := by simp [n9]
        have e10 : (x == 10) = false := by simp [n10]
        by_cases hq : x = 39 ∨ x = 34
        · have hG := G_quote k0 whole b off op ws w ((i + 1 : Nat) : Int) x hq
          have eq : (x == 39 || x == 34) = true := by rcases hq with rfl | rfl <;> rfl
          simp only [aut, hpf, cond_false, eq, cond_true]
          rcases q_pass k0 whole b off hget hb hk0 x n10 true ws (i + 1) w c (by omega) with ⟨h1, h2⟩ | ⟨j, w', x1, x2, x3, h1, h2, h3, h4, h5⟩
          · rw [h1]
            refine loopN_inr ?_
            have h2' : F10.l_454975 k0 ((((i + 1 : Nat) : Int), (off, b.length), (), x, ()), (whole, ((), (), true, ()), ws, w, ()), ()) = some (F10.r454975_0 100 whole) := h2
            unfold F10.s444 F10.go444
            simp only [h0, h0', decide_true, cond_true, cond_false, Bool.and_self, Int.toNat_natCast, hg, e32, e9, e10, hwr, hG, Option.bind_some, Sum.elim_inl, Sum.elim_inr, h2']
            rfl
          · have h5' : F10.l_454975 k0 ((((i + 1 : Nat) : Int), (off, b.length), (), x, ()), (whole, ((), (), true, ()), ws, w, ()), ()) = some (F10.r454975_1 (off, b.length) x1 x2 (off, b.length) x3 ((j + 1 : Nat) : Int) whole true ws w') := h5
            have s : F10.s444 k0 (F10.i444 (off, b.length) i whole op ws w) = some (.inl (F10.i444 (off, b.length) ((j + 1 : Nat) : Int) whole true ws w')) := by
              unfold F10.s444 F10.go444
              simp only [h0, h0', decide_true, cond_true, cond_false, Bool.and_self, Int.toNat_natCast, hg, e32, e9, e10, hwr, hG, Option.bind_some, Sum.elim_inl, Sum.elim_inr, h5']
            rw [h4, loopN_inl s]
            exact m_loop k0 whole b off hget hb hk0 k f (j + 1) true ws w' h2 (by omega) (by omega) (by omega) (by omega)
        · have n39 : x ≠ 39 := fun h => hq (.inl h)
          have n34 : x ≠ 34 := fun h => hq (.inr h)
          have eq : (x == 39 || x == 34) = false := by simp [n39, n34]
          simp only [aut, hpf, cond_false, eq]
          by_cases hb2 : x = 92
          · subst hb2
            have e92 : ((92 : Int) == 92) = true := rfl
            simp only [e92, cond_true]
            rcases Nat.lt_or_ge (i + 1) b.length with c2 | c2
            · have hG := G_bs k0 whole b off op ws w (i + 1) c2 hb (hget (i + 1) c2)
              rw [drop_int c2]
              have hl : (w ++ [b[i + 1]]).length ≤ 8000000 := by simp; omega
              have s : F10.s444 k0 (F10.i444 (off, b.length) i whole op ws w) = some (.inl (F10.i444 (off, b.length) ((i + 1 + 1 : Nat) : Int) whole true ws (w ++ [b[i + 1]]))) := by
                unfold F10.s444 F10.go444
                simp only [h0, h0', decide_true, cond_true, cond_false, Bool.and_self, Int.toNat_natCast, hg, e32, e9, e10, hwr, hG, Option.bind_some, Sum.elim_inl, Sum.elim_inr]
                unfold F10.go56871
                rw [ble1 hl]
                rfl
              rw [loopN_inl s]
              exact m_loop k0 whole b off hget hb hk0 k f (i + 1 + 1) true ws (w ++ [b[i + 1]]) c2 (by omega) (by omega) (by omega) (by simp; omega)
            · have e : i + 1 = b.length := by omega
              have hG := G_end k0 whole b off op ws w ((i + 1 : Nat) : Int) (by omega)
              rw [List.drop_eq_nil_of_le c2]
              refine loopN_inr ?_
              unfold F10.s444 F10.go444
              simp only [h0, h0', decide_true, cond_true, cond_false, Bool.and_self, Int.toNat_natCast, hg, e32, e9, e10, hwr, hG, Option.bind_some, Sum.elim_inl, Sum.elim_inr]
              rfl
          · have e92 : (x == 92) = false := by simp [hb2]
            have hG := G_other k0 whole b off op ws w ((i + 1 : Nat) : Int) x n39 n34 hb2
            simp only [e92, cond_false]
            have hl : (w ++ [x]).length ≤ 8000000 := by simp; omega
            have s : F10.s444 k0 (F10.i444 (off, b.length) i whole op ws w) = some (.inl (F10.i444 (off, b.length) ((i + 1 : Nat) : Int) whole true ws (w ++ [x]))) := by
              unfold F10.s444 F10.go444
              simp only [h0, h0', decide_true, cond_true, cond_false, Bool.and_self, Int.toNat_natCast, hg, e32, e9, e10, hwr, hG, Option.bind_some, Sum.elim_inl, Sum.elim_inr]
              unfold F10.go56871
              rw [ble1 hl]
              rfl
            rw [loopN_inl s]
            exact m_loop k0 whole b off hget hb hk0 k f (i + 1) true ws (w ++ [x]) c (by omega) (by omega) (by omega) (by simp; omega)
    · have : i = b.length := Nat.le_antisymm hi c
      subst this
      refine loopN_inr ?_
      rw [List.drop_length]
      unfold F10.s444 F10.go444
      simp only [Int.lt_irrefl, decide_false, cond_false]
      rfl
end Go.Proofs.Tryd.S

namespace Go.Proofs.Tryd.S
open Go Go.Ev
/-! ### the reference's words -/
def wordA : Nat → List Int → List Int → Option (List Int × List Int)
  | 0, _, _ => none
  | f + 1, w, [] => some (w, [])
  | f + 1, w, c :: r =>
    bif partB c then some (w, c :: r)
    else bif c == 39 || c == 34 then (match qscan c w r with | none => none | some (w', r') => wordA f w' r')
    else bif c == 92 then (match r with | [] => none | d :: r' => wordA f (w ++ [d]) r')
    else wordA f (w ++ [c]) r
def skipB : List Int → List Int
  | [] => []
  | c :: r => bif partB c then skipB r else c :: r
theorem skipB_len : ∀ (l : List Int), (skipB l).length ≤ l.length
  | [] => Nat.le_refl _
  | c :: r => by
    unfold skipB
    cases partB c
    · exact Nat.le_refl _
    · have := skipB_len r
      simp only [cond_true, List.length_cons]; omega
theorem skipB_head : ∀ (l : List Int) {c : Int} {r : List Int}, skipB l = c :: r → partB c = false
  | [], c, r, h => by cases h
  | d :: l, c, r, h => by
    unfold skipB at h
    cases e : partB d <;> rw [e] at h <;> simp only [cond_true, cond_false] at h
    · injection h with h1 h2; subst h1; exact e
    · exact skipB_head l h
theorem qscan_suf {q : Int} : ∀ {w l w' l' : List Int}, qscan q w l = some (w', l') → l' <:+ l
  | w, [], w', l', h => by cases h
  | w, c :: r, w', l', h => by
    simp only [qscan] at h
    cases h1 : c == q <;> rw [h1] at h <;> simp only [cond_true, cond_false] at h
    · cases h2 : c == 10 <;> rw [h2] at h <;> simp only [cond_true, cond_false] at h
      · exact (qscan_suf h).trans (List.suffix_cons c r)
      · cases h
    · injection h with h; injection h with h3 h4; subst h4
      exact List.suffix_cons c r
theorem wordA_suf : ∀ {f : Nat} {w l w' l' : List Int}, wordA f w l = some (w', l') → l' <:+ l
  | 0, w, l, w', l', h => by cases h
  | f + 1, w, [], w', l', h => by
    simp only [wordA] at h; injection h with h; injection h with h1 h2; subst h2; exact List.suffix_refl _
  | f + 1, w, c :: r, w', l', h => by
    simp only [wordA] at h
    cases h1 : partB c <;> rw [h1] at h <;> simp only [cond_true, cond_false] at h
    · cases h2 : (c == 39 || c == 34) <;> rw [h2] at h <;> simp only [cond_true, cond_false] at h
      · cases h3 : c == 92 <;> rw [h3] at h <;> simp only [cond_true, cond_false] at h
        · exact (wordA_suf h).trans (List.suffix_cons c r)
        · cases r with
          | nil => cases h
          | cons d r' => exact (wordA_suf h).trans ((List.suffix_cons d r').trans (List.suffix_cons c (d :: r')))
      · cases hq : qscan c w r with
        | none => rw [hq] at h; cases h
        | some p =>
          obtain ⟨w1, r1⟩ := p
          rw [hq] at h
          exact ((wordA_suf h).trans (qscan_suf hq)).trans (List.suffix_cons c r)
    · injection h with h; injection h with h1 h2; subst h2; exact List.suffix_refl _
theorem aut_fuel : ∀ (f f' : Nat) (op : Bool) (ws : List ByteArray) (w l : List Int), l.length < f → l.length < f' → aut f op ws w l = aut f' op ws w l
  | 0, f', op, ws, w, l, h, _ => absurd h (Nat.not_lt_zero _)
  | f + 1, 0, op, ws, w, l, _, h => absurd h (Nat.not_lt_zero _)
  | f + 1, f' + 1, op, ws, w, [], _, _ => rfl
  | f + 1, f' + 1, op, ws, w, c :: r, h, h' => by
    have h1 : r.length < f := by simp at h; omega
    have h2 : r.length < f' := by simp at h'; omega
    simp only [aut]
    rw [aut_fuel f f' false (endW op ws w) [] r h1 h2, aut_fuel f f' true ws (w ++ [c]) r h1 h2]
    cases hq : qscan c w r with
    | none =>
      cases r with
      | nil => rfl
      | cons d r' => simp only [aut_fuel f f' true ws (w ++ [d]) r' (by simp at h1; omega) (by simp at h2; omega)]
    | some p =>
      obtain ⟨w1, r1⟩ := p
      have := (qscan_len hq).1
      simp only [aut_fuel f f' true ws w1 r1 (by omega) (by omega)]
      cases r with
      | nil => rfl
      | cons d r' => simp only [aut_fuel f f' true ws (w ++ [d]) r' (by simp at h1; omega) (by simp at h2; omega)]
theorem aut_skip : ∀ (l : List Int) (f : Nat) (ws : List ByteArray), l.length < f → aut f false ws [] l = aut f false ws [] (skipB l)
  | [], f, ws, h => rfl
  | c :: r, f + 1, ws, h => by
    have h1 : r.length < f := by simp at h; omega
    unfold skipB
    cases e : partB c
    · rfl
    · simp only [cond_true]
      have e1 : aut (f + 1) false ws [] (c :: r) = aut f false ws [] r := by simp only [aut, e, cond_true, endW, cond_false]
      rw [e1, aut_skip r f ws h1]
      have := skipB_len r
      exact aut_fuel _ _ _ _ _ _ (by omega) (by omega)
theorem aut_begin (f : Nat) (ws : List ByteArray) (c : Int) (r : List Int) (h : partB c = false) : aut f false ws [] (c :: r) = aut f true ws [] (c :: r) := by
  cases f with
  | zero => rfl
  | succ f => simp only [aut, h, cond_false]
def cont (f : Nat) (ws : List ByteArray) : Option (List Int × List Int) → Option (Bool × List ByteArray × List Int)
  | none => none
  | some (w', []) => some (true, ws, w')
  | some (w', _ :: r) => aut f false (ws ++ [strOf w']) [] r
theorem cont_fuel (f f' : Nat) (ws : List ByteArray) : ∀ (o : Option (List Int × List Int)), (∀ w' l', o = some (w', l') → l'.length < f ∧ l'.length < f') → cont f ws o = cont f' ws o
  | none, _ => rfl
  | some (w', []), _ => rfl
  | some (w', c :: r), h => by
    obtain ⟨h1, h2⟩ := h w' (c :: r) rfl
    simp only [List.length_cons] at h1 h2
    exact aut_fuel _ _ _ _ _ _ (by omega) (by omega)
theorem aut_word : ∀ (f g : Nat) (ws : List ByteArray) (w l : List Int), l.length < f → l.length < g → aut f true ws w l = cont g ws (wordA f w l)
  | 0, g, ws, w, l, h, _ => absurd h (Nat.not_lt_zero _)
  | f + 1, g, ws, w, [], h, _ => rfl
  | f + 1, g, ws, w, c :: r, h, hg => by
    have h1 : r.length < f := by simp at h; omega
    have h2 : r.length < g := by simp at hg; omega
    simp only [aut, wordA]
    cases e1 : partB c
    · cases e2 : (c == 39 || c == 34)
      · cases e3 : c == 92
        · simp only [cond_false]; exact aut_word f g ws (w ++ [c]) r h1 h2
        · simp only [cond_false, cond_true]
          cases r with
          | nil => rfl
          | cons d r' => exact aut_word f g ws (w ++ [d]) r' (by simp at h1; omega) (by simp at h2; omega)
      · simp only [cond_false, cond_true]
        cases hq : qscan c w r with
        | none => rfl
        | some p =>
          obtain ⟨w1, r1⟩ := p
          have := (qscan_len hq).1
          exact aut_word f g ws w1 r1 (by omega) (by omega)
    · simp only [cond_true, endW]
      show aut f false (ws ++ [strOf w]) [] r = aut g false (ws ++ [strOf w]) [] r
      exact aut_fuel _ _ _ _ _ _ h1 h2
def finE : Bool × List ByteArray × List Int → List ByteArray := fun p => endW p.1 p.2.1 p.2.2
def refS : Nat → List ByteArray → List Int → Option (List ByteArray)
  | 0, _, _ => none
  | g + 1, ws, l => match skipB l with
    | [] => some ws
    | c :: r => match wordA (r.length + 2) [] (c :: r) with
      | none => none
      | some (w', l') => refS g (ws ++ [strOf w']) l'
theorem wordA_lt {f : Nat} {w : List Int} {c : Int} {r : List Int} (hc : partB c = false) {w' l' : List Int} (h : wordA f w (c :: r) = some (w', l')) : l'.length ≤ r.length := by
  cases f with
  | zero => cases h
  | succ f =>
    simp only [wordA, hc, cond_false] at h
    cases h2 : (c == 39 || c == 34) <;> rw [h2] at h <;> simp only [cond_true, cond_false] at h
    · cases h3 : c == 92 <;> rw [h3] at h <;> simp only [cond_true, cond_false] at h
      · exact (wordA_suf h).length_le
      · cases r with
        | nil => cases h
        | cons d r' => have := (wordA_suf h).length_le; simp; omega
    · cases hq : qscan c w r with
      | none => rw [hq] at h; cases h
      | some p =>
        obtain ⟨w1, r1⟩ := p
        rw [hq] at h
        have := (wordA_suf h).length_le
        have := (qscan_len hq).1
        omega
theorem wordA_head : ∀ {f : Nat} {w l w' : List Int} {d : Int} {r' : List Int}, wordA f w l = some (w', d :: r') → partB d = true
  | 0, w, l, w', d, r', h => by cases h
  | f + 1, w, [], w', d, r', h => by simp only [wordA] at h; injection h with h; injection h with h1 h2; cases h2
  | f + 1, w, c :: r, w', d, r', h => by
    simp only [wordA] at h
    cases h1 : partB c <;> rw [h1] at h <;> simp only [cond_true, cond_false] at h
    · cases h2 : (c == 39 || c == 34) <;> rw [h2] at h <;> simp only [cond_true, cond_false] at h
      · cases h3 : c == 92 <;> rw [h3] at h <;> simp only [cond_true, cond_false] at h
        · exact wordA_head h
        · cases r with
          | nil => cases h
          | cons d r' => exact wordA_head h
      · cases hq : qscan c w r with
        | none => rw [hq] at h; cases h
        | some p =>
          obtain ⟨w1, r1⟩ := p
          rw [hq] at h
          exact wordA_head h
    · injection h with h; injection h with h3 h4; injection h4 with h5 h6; subst h5; exact h1
theorem aut_ref : ∀ (g f : Nat) (ws : List ByteArray) (l : List Int), l.length < g → l.length < f → (aut f false ws [] l).map finE = refS g ws l
  | 0, f, ws, l, h, _ => absurd h (Nat.not_lt_zero _)
  | g + 1, f, ws, l, h, hf => by
    rw [aut_skip l f ws hf]
    have hsl := skipB_len l
    unfold refS
    cases hs : skipB l with
    | nil =>
      cases f with
      | zero => omega
      | succ f => rfl
    | cons c r =>
      have hc := skipB_head l hs
      rw [hs] at hsl
      simp only [List.length_cons] at hsl
      have ef : aut f false ws [] (c :: r) = aut (r.length + 2) false ws [] (c :: r) := aut_fuel _ _ _ _ _ _ (by simp; omega) (by simp)
      rw [ef, aut_begin _ ws c r hc, aut_word (r.length + 2) (r.length + 2) ws [] (c :: r) (by simp) (by simp)]
      simp only
      cases hw : wordA (r.length + 2) [] (c :: r) with
      | none => rfl
      | some p =>
        obtain ⟨w', l'⟩ := p
        have hlt := wordA_lt hc hw
        simp only
        cases l' with
        | nil =>
          cases g with
          | zero => omega
          | succ g => rfl
        | cons d r' =>
          simp only [List.length_cons] at hlt
          have hd : partB d = true := wordA_head hw
          rw [← aut_ref g (r.length + 2) (ws ++ [strOf w']) (d :: r') (by simp; omega) (by simp; omega)]
          show (aut (r.length + 2) false (ws ++ [strOf w']) [] r').map finE = _
          congr 1
          have : aut (r.length + 2) false (ws ++ [strOf w']) [] (d :: r') = aut (r.length + 1) false (ws ++ [strOf w']) [] r' := by simp only [aut, hd, cond_true, endW, cond_false]
          rw [this]
          exact aut_fuel _ _ _ _ _ _ (by omega) (by omega)
end Go.Proofs.Tryd.S

namespace Go.Proofs.Tryd.S
open Go Go.Ev
theorem F36_eq (k : Nat) (c : Int) : F36.go k c = some ((partB c, ()), (), ()) := by
  unfold F36.go partB
  cases c == 32 <;> cases c == 9 <;> rfl
section
variable (k0 : Nat) (b : List Int) (q : Int) (w : List Int)
theorem H_blank (i c : Int) (h : partB c = true) : F37.go7827 k0 i b c q w = some (F37.r7827_0 (strOf w) i true) := by
  unfold F37.go7827
  simp only [F36_eq, Option.bind_some, h, cond_true]
theorem H_quote (i c : Int) (hc : c = 39 ∨ c = 34) : F37.go7827 k0 i b c q w = some (F37.r7827_1 c b i w) := by
  have h : partB c = false := by rcases hc with rfl | rfl <;> rfl
  unfold F37.go7827
  simp only [F36_eq, Option.bind_some, h, cond_false]
  rcases hc with rfl | rfl <;> rfl
theorem H_end (i : Nat) (h : i + 1 = b.length) (hb : b.length ≤ 4000000) : ∃ x y, F37.go7827 k0 (i : Int) b 92 q w = some (F37.r7827_0 x y false) := by
  have hp : partB 92 = false := rfl
  have e39 : ((92 : Int) == 39) = false := rfl
  have e34 : ((92 : Int) == 34) = false := rfl
  have e92 : ((92 : Int) == 92) = true := rfl
  have hw : IntKind.i64.wrap ((i : Int) + 1) = (b.length : Int) := by rw [wrap_id (by omega) (by omega)]; omega
  have e1 : (((b.length : Nat) : Int) == ((b.length : Nat) : Int)) = true := by simp
  refine ⟨⟨#[]⟩, 0, ?_⟩
  unfold F37.go7827
  simp only [F36_eq, Option.bind_some, hp, cond_false, e39, e34, e92, cond_true, hw, e1]
theorem H_bs (i : Nat) (h : i + 1 < b.length) (hb : b.length ≤ 4000000) (hw : w.length ≤ 4000000) : ∃ x y, F37.go7827 k0 (i : Int) b 92 q w = some (F37.r7827_2 q b x y ((i + 1 : Nat) : Int) (w ++ [b[i + 1]])) := by
  have hp : partB 92 = false := rfl
  have e39 : ((92 : Int) == 39) = false := rfl
  have e34 : ((92 : Int) == 34) = false := rfl
  have e92 : ((92 : Int) == 92) = true := rfl
  have hwr : IntKind.i64.wrap ((i : Int) + 1) = ((i + 1 : Nat) : Int) := by rw [wrap_id (by omega) (by omega)]; rfl
  have e1 : (((i + 1 : Nat) : Int) == ((b.length : Nat) : Int)) = false := by
    have : ((i + 1 : Nat) : Int) ≠ ((b.length : Nat) : Int) := by omega
    simp [this]
    omega
  have h0 : ((i + 1 : Nat) : Int) < (b.length : Int) := by omega
  have h0' : (0 : Int) ≤ ((i + 1 : Nat) : Int) := by omega
  have hl : (w ++ [b[i + 1]]).length ≤ 8000000 := by simp; omega
  refine ⟨false, 92, ?_⟩
  unfold F37.go7827
  simp only [F36_eq, Option.bind_some, hp, cond_false, e39, e34, e92, cond_true, hwr, e1, h0, h0', decide_true, Bool.and_self, Int.toNat_natCast, Go.Ev.getD_in h, ble1 hl]
theorem H_other (i c : Int) (hp : partB c = false) (h1 : c ≠ 39) (h2 : c ≠ 34) (h3 : c ≠ 92) (hw : w.length ≤ 4000000) : ∃ x y, F37.go7827 k0 i b c q w = some (F37.r7827_2 q b x y i (w ++ [c])) := by
  have e39 : (c == 39) = false := by simp [h1]
  have e34 : (c == 34) = false := by simp [h2]
  have e92 : (c == 92) = false := by simp [h3]
  have hl : (w ++ [c]).length ≤ 8000000 := by simp; omega
  refine ⟨false, c, ?_⟩
  unfold F37.go7827
  simp only [F36_eq, Option.bind_some, hp, cond_false, e39, e34, e92, cond_true, ble1 hl]
end
def fin37 : (((ByteArray × Int × Bool × Unit) × Unit × Unit) ⊕ ((Int × List Int × Unit × Unit) × (List Int × Unit) × Unit)) → ByteArray × Int × Bool
  | .inl t => (t.1.1, t.1.2.1, t.1.2.2.1)
  | .inr t => (strOf t.2.1.1, (t.1.2.1.length : Int), t.1.1 == 0)
def okW (n : Nat) (t : ByteArray × Int × Bool) : Option (List Int × List Int) → Prop
  | none => t.2.2 = false
  | some (w', l') => t = (strOf w', ((n - l'.length : Nat) : Int), true)
def spS (f : Nat) (q : Int) (w l : List Int) : Option (List Int × List Int) := bif q == 0 then wordA f w l else match qscan q w l with
  | none => none
  | some (w', r') => wordA f w' r'
theorem word_loop (k0 : Nat) (b : List Int) (hb : b.length ≤ 4000000) : ∀ (k i f : Nat) (q : Int) (w : List Int), i ≤ b.length → b.length - i < k → b.length - i < f → w.length ≤ i → (q = 0 ∨ q = 39 ∨ q = 34) →
    ∃ R, loopN (F37.s122 k0) k (F37.i122 i q b w) = some R ∧ okW b.length (fin37 R) (spS f q w (b.drop i))
  | 0, i, f, q, w, _, hk, _, _, _ => absurd hk (Nat.not_lt_zero _)
  | k + 1, i, 0, q, w, _, _, hf, _, _ => absurd hf (Nat.not_lt_zero _)
  | k + 1, i, f + 1, q, w, hi, hk, hf, hw, hq => by
    rcases Nat.lt_or_ge i b.length with c | c
    · have h0 : (i : Int) < (b.length : Int) := by omega
      have h0' : (0 : Int) ≤ (i : Int) := by omega
      have hg : b.getD i 0 = b[i] := Go.Ev.getD_in c
      have hwr : IntKind.i64.wrap ((i : Int) + 1) = ((i + 1 : Nat) : Int) := by rw [wrap_id (by omega) (by omega)]; rfl
      have hdl : (b.drop (i + 1)).length = b.length - (i + 1) := List.length_drop
      rw [drop_int c]
      generalize hx : b[i] = x at *
      by_cases q0 : q = 0
      · subst q0
        have eq0 : ((0 : Int) != 0) = false := rfl
        have eq1 : ((0 : Int) == 0) = true := rfl
        simp only [spS, eq1, cond_true]
        cases hp : partB x
        · by_cases hqu : x = 39 ∨ x = 34
          · have hH := H_quote k0 b 0 w (i : Int) x hqu
            have e : (x == 39 || x == 34) = true := by rcases hqu with rfl | rfl <;> rfl
            have ex : (x == 0) = false := by rcases hqu with rfl | rfl <;> rfl
            obtain ⟨R, h1, h2⟩ := word_loop k0 b hb k (i + 1) f x w c (by omega) (by omega) (by omega) (.inr hqu)
            have s : F37.s122 k0 (F37.i122 i 0 b w) = some (.inl (F37.i122 ((i + 1 : Nat) : Int) x b w)) := by
              unfold F37.s122 F37.go122
              simp only [h0, h0', decide_true, cond_true, cond_false, Bool.and_self, Int.toNat_natCast, hg, eq0, hH, Option.bind_some, Sum.elim_inl, Sum.elim_inr, hwr]
            refine ⟨R, (loopN_inl s).trans h1, ?_⟩
            simp only [wordA, hp, cond_false, e, cond_true]
            simp only [spS, ex, cond_false] at h2
            exact h2
          · have n39 : x ≠ 39 := fun h => hqu (.inl h)
            have n34 : x ≠ 34 := fun h => hqu (.inr h)
            have e : (x == 39 || x == 34) = false := by simp [n39, n34]
            simp only [wordA, hp, cond_false, e]
            by_cases h92 : x = 92
            · subst h92
              have e92 : ((92 : Int) == 92) = true := rfl
              simp only [e92, cond_true]
              rcases Nat.lt_or_ge (i + 1) b.length with c2 | c2
              · obtain ⟨y1, y2, hH⟩ := H_bs k0 b 0 w i c2 hb (by omega)
                rw [drop_int c2]
                have hwr2 : IntKind.i64.wrap (((i + 1 : Nat) : Int) + 1) = ((i + 1 + 1 : Nat) : Int) := by rw [wrap_id (by omega) (by omega)]; rfl
                obtain ⟨R, h1, h2⟩ := word_loop k0 b hb k (i + 1 + 1) f 0 (w ++ [b[i + 1]]) c2 (by omega) (by omega) (by simp; omega) (.inl rfl)
                have s : F37.s122 k0 (F37.i122 i 0 b w) = some (.inl (F37.i122 ((i + 1 + 1 : Nat) : Int) 0 b (w ++ [b[i + 1]]))) := by
                  unfold F37.s122 F37.go122
                  simp only [h0, h0', decide_true, cond_true, cond_false, Bool.and_self, Int.toNat_natCast, hg, eq0, hH, Option.bind_some, Sum.elim_inl, Sum.elim_inr, hwr2]
                refine ⟨R, (loopN_inl s).trans h1, ?_⟩
                simp only [spS, eq1, cond_true] at h2
                exact h2
              · obtain ⟨y1, y2, hH⟩ := H_end k0 b 0 w i (by omega) hb
                rw [List.drop_eq_nil_of_le c2]
                refine ⟨_, loopN_inr (y := F37.r122_0 y1 y2 false) ?_, rfl⟩
                unfold F37.s122 F37.go122
                simp only [h0, h0', decide_true, cond_true, cond_false, Bool.and_self, Int.toNat_natCast, hg, eq0, hH, Option.bind_some, Sum.elim_inl, Sum.elim_inr]
            · have e92 : (x == 92) = false := by simp [h92]
              simp only [e92, cond_false]
              obtain ⟨y1, y2, hH⟩ := H_other k0 b 0 w (i : Int) x hp n39 n34 h92 (by omega)
              obtain ⟨R, h1, h2⟩ := word_loop k0 b hb k (i + 1) f 0 (w ++ [x]) c (by omega) (by omega) (by simp; omega) (.inl rfl)
              have s : F37.s122 k0 (F37.i122 i 0 b w) = some (.inl (F37.i122 ((i + 1 : Nat) : Int) 0 b (w ++ [x]))) := by
                unfold F37.s122 F37.go122
                simp only [h0, h0', decide_true, cond_true, cond_false, Bool.and_self, Int.toNat_natCast, hg, eq0, hH, Option.bind_some, Sum.elim_inl, Sum.elim_inr, hwr]
              refine ⟨R, (loopN_inl s).trans h1, ?_⟩
              simp only [spS, eq1, cond_true] at h2
              exact h2
        · have hH := H_blank k0 b 0 w (i : Int) x hp
          refine ⟨_, loopN_inr (y := F37.r122_0 (strOf w) i true) ?_, ?_⟩
          · unfold F37.s122 F37.go122
            simp only [h0, h0', decide_true, cond_true, cond_false, Bool.and_self, Int.toNat_natCast, hg, eq0, hH, Option.bind_some, Sum.elim_inl, Sum.elim_inr]
          · simp only [wordA, hp, cond_true]
            show (strOf w, (i : Int), true) = _
            have : b.length - (x :: b.drop (i + 1)).length = i := by simp only [List.length_cons, hdl]; omega
            rw [this]
      · have eq0 : (q != 0) = true := bne_int q0
        have eq1 : (q == 0) = false := by simp [q0]
        have q10 : q ≠ 10 := by rcases hq with h | h | h <;> omega
        simp only [spS, eq1, cond_false]
        by_cases e1 : x = q
        · have e1' : (x == q) = true := by simp [e1]
          have e10 : (x == 10) = false := by rw [e1]; simp [q10]
          obtain ⟨R, h1, h2⟩ := word_loop k0 b hb k (i + 1) (f + 1) 0 w c (by omega) (by omega) (by omega) (.inl rfl)
          have s : F37.s122 k0 (F37.i122 i q b w) = some (.inl (F37.i122 ((i + 1 : Nat) : Int) 0 b w)) := by
            unfold F37.s122 F37.go122
            simp only [h0, h0', decide_true, cond_true, cond_false, Bool.and_self, Int.toNat_natCast, hg, eq0, e10, e1', hwr]
          refine ⟨R, (loopN_inl s).trans h1, ?_⟩
          simp only [qscan, e1', cond_true]
          have eq2 : ((0 : Int) == 0) = true := rfl
          simp only [spS, eq2, cond_true] at h2
          exact h2
        · have e1' : (x == q) = false := by simp [e1]
          by_cases e2 : x = 10
          · have e10 : (x == 10) = true := by simp [e2]
            refine ⟨_, loopN_inr (y := F37.r122_0 ⟨#[]⟩ 0 false) ?_, ?_⟩
            · unfold F37.s122 F37.go122
              simp only [h0, h0', decide_true, cond_true, cond_false, Bool.and_self, Int.toNat_natCast, hg, eq0, e10]
            · simp only [qscan, e1', cond_false, e10, cond_true]
              rfl
          · have e10 : (x == 10) = false := by simp [e2]
            have hl : (w ++ [x]).length ≤ 8000000 := by simp; omega
            obtain ⟨R, h1, h2⟩ := word_loop k0 b hb k (i + 1) (f + 1) q (w ++ [x]) c (by omega) (by omega) (by simp; omega) hq
            have s : F37.s122 k0 (F37.i122 i q b w) = some (.inl (F37.i122 ((i + 1 : Nat) : Int) q b (w ++ [x]))) := by
              unfold F37.s122 F37.go122
              simp only [h0, h0', decide_true, cond_true, cond_false, Bool.and_self, Int.toNat_natCast, hg, eq0, e10, e1', ble1 hl, hwr]
            refine ⟨R, (loopN_inl s).trans h1, ?_⟩
            simp only [qscan, e1', cond_false, e10]
            simp only [spS, eq1, cond_false] at h2
            exact h2
    · have : i = b.length := Nat.le_antisymm hi c
      subst this
      rw [List.drop_length]
      refine ⟨_, loopN_inr (y := F37.r122_1 q b w) ?_, ?_⟩
      · unfold F37.s122 F37.go122
        simp only [Int.lt_irrefl, decide_false, cond_false]
      · by_cases q0 : q = 0
        · subst q0; rfl
        · have eq1 : (q == 0) = false := by simp [q0]
          simp only [spS, eq1, cond_false, qscan]
          exact eq1
end Go.Proofs.Tryd.S

namespace Go.Proofs.Tryd.S
open Go Go.Ev
theorem F37_eq (k : Nat) (b : List Int) (hb : b.length ≤ 4000000) (hk : b.length < k) (f : Nat) (hf : b.length < f) : ∃ t, F37.go k b = some (F37.r t.1 t.2.1 t.2.2) ∧ okW b.length t (wordA f [] b) := by
  obtain ⟨R, h1, h2⟩ := word_loop k b hb k 0 f 0 [] (Nat.zero_le _) (by omega) (by omega) (by simp) (.inl rfl)
  refine ⟨fin37 R, ?_, by simpa [spS] using h2⟩
  have h1' : F37.l_122 k ((0, (), 0, b, ()), ([], ()), ()) = some R := h1
  unfold F37.go
  rw [h1']
  cases R <;> rfl
theorem skip_loop (k0 : Nat) (ws : List ByteArray) : ∀ (k : Nat) (l : List Int), l.length < k → loopN (F11.s480 k0) k (F11.i480 l ws) = some (F11.r480 (skipB l) ws)
  | 0, l, h => absurd h (Nat.not_lt_zero _)
  | k + 1, [], h => loopN_inr rfl
  | k + 1, c :: r, h => by
    have d0 : (((c :: r).length : Nat) : Int) > 0 := by simp only [List.length_cons]; omega
    have d1 : (0 : Int) < (((c :: r).length : Nat) : Int) := d0
    have d2 : (1 : Int) ≤ (((c :: r).length : Nat) : Int) := by omega
    have hg : (c :: r).getD 0 0 = c := rfl
    cases hp : partB c
    · refine loopN_inr ?_
      unfold F11.s480 F11.go480 skipB
      simp only [d0, d1, decide_true, cond_true, hg, F36_eq, Option.bind_some, hp, cond_false]
    · have s : F11.s480 k0 (F11.i480 (c :: r) ws) = some (.inl (F11.i480 r ws)) := by
        unfold F11.s480 F11.go480
        simp only [d0, d1, d2, decide_true, cond_true, hg, F36_eq, Option.bind_some, hp]
        rfl
      have ih := skip_loop k0 ws k r (by simp at h; omega)
      rw [loopN_inl s, ih]
      simp only [skipB, hp, cond_true]
def outR : Option (List ByteArray) → Int × List ByteArray
  | none => (100, [])
  | some l => (0, l)
theorem ref_loop (k0 : Nat) : ∀ (k g : Nat) (l : List Int) (ws : List ByteArray), l.length ≤ 4000000 → l.length < k0 → l.length < k → l.length < g → ws.length + l.length ≤ 4000000 →
    loopN (F11.s30 k0) k (F11.i30 l ws) = some (F11.r30 (outR (refS g ws l)).1 (outR (refS g ws l)).2)
  | 0, g, l, ws, _, _, h, _, _ => absurd h (Nat.not_lt_zero _)
  | k + 1, 0, l, ws, _, _, _, h, _ => absurd h (Nat.not_lt_zero _)
  | k + 1, g + 1, l, ws, hl, hk0, hk, hg, hws => by
    have h480 : F11.l_480 k0 ((l, (), ()), (ws, ()), ()) = some (F11.r480 (skipB l) ws) := skip_loop k0 ws k0 l hk0
    have hsl := skipB_len l
    unfold refS
    cases hs : skipB l with
    | nil =>
      rw [hs] at h480
      refine loopN_inr ?_
      unfold F11.s30 F11.go30
      simp only [h480, Option.bind_some]
      rfl
    | cons c r =>
      rw [hs] at h480 hsl
      simp only [List.length_cons] at hsl
      have hc := skipB_head l hs
      obtain ⟨t, h1, h2⟩ := F37_eq k0 (c :: r) (by simp; omega) (by simp; omega) (r.length + 2) (by simp)
      have n0 : ((((c :: r).length : Nat) : Int) == 0) = false := by
        have : (((c :: r).length : Nat) : Int) ≠ 0 := by simp only [List.length_cons]; omega
        simp [this]
        omega
      simp only
      cases hw : wordA (r.length + 2) [] (c :: r) with
      | none =>
        rw [hw] at h2
        have h2 : t.2.2 = false := h2
        refine loopN_inr ?_
        unfold F11.s30 F11.go30
        simp only [h480, Option.bind_some, n0, cond_false, h1, h2, Bool.not_false, cond_true]
        rfl
      | some p =>
        obtain ⟨w', l'⟩ := p
        rw [hw] at h2
        have h2 : t = (strOf w', (((c :: r).length - l'.length : Nat) : Int), true) := h2
        subst h2
        have hlt := wordA_lt hc hw
        have hsuf := List.suffix_iff_eq_drop.1 (wordA_suf hw)
        have d1 : (0 : Int) ≤ (((c :: r).length - l'.length : Nat) : Int) := by omega
        have d2 : (((c :: r).length - l'.length : Nat) : Int) ≤ (((c :: r).length : Nat) : Int) := by omega
        have b1 : (ws ++ [strOf w']).length ≤ 8000000 := by simp; omega
        have s : F11.s30 k0 (F11.i30 l ws) = some (.inl (F11.i30 l' (ws ++ [strOf w']))) := by
          unfold F11.s30 F11.go30
          simp only [h480, Option.bind_some, n0, cond_false, h1, Bool.not_true, ble16 b1, cond_true, d1, d2, decide_true, Bool.and_self, Int.toNat_natCast, ← hsuf]
        rw [loopN_inl s]
        exact ref_loop k0 k g l' (ws ++ [strOf w']) (by omega) (by omega) (by omega) (by omega) (by simp; omega)
theorem F11_words (k : Nat) (b : List Int) (hb : b.length ≤ 4000000) (hk : b.length < k) : F11.go k b false = some (F11.r (outR (refS (b.length + 1) [] b)).1 (outR (refS (b.length + 1) [] b)).2) := by
  have h : F11.l_30 k ((b, (), ()), ([], ()), ()) = some (F11.r30 (outR (refS (b.length + 1) [] b)).1 (outR (refS (b.length + 1) [] b)).2) := ref_loop k k (b.length + 1) b [] hb hk hk (by omega) (by simp; omega)
  unfold F11.go
  simp only [cond_false, h, Option.bind_some]
theorem aut_wlen : ∀ (f : Nat) (op : Bool) (ws : List ByteArray) (w l : List Int) {p : Bool × List ByteArray × List Int}, aut f op ws w l = some p → p.2.1.length ≤ ws.length + l.length
  | 0, op, ws, w, l, p, h => by cases h
  | f + 1, op, ws, w, [], p, h => by injection h with h; subst h; exact Nat.le_add_right _ _
  | f + 1, op, ws, w, c :: r, p, h => by
    simp only [aut] at h
    cases h1 : partB c <;> rw [h1] at h <;> simp only [cond_true, cond_false] at h
    · cases h2 : (c == 39 || c == 34) <;> rw [h2] at h <;> simp only [cond_true, cond_false] at h
      · cases h3 : c == 92 <;> rw [h3] at h <;> simp only [cond_true, cond_false] at h
        · have := aut_wlen f _ _ _ _ h; simp; omega
        · cases r with
          | nil => cases h
          | cons d r' => have := aut_wlen f _ _ _ _ h; simp; omega
      · cases hq : qscan c w r with
        | none => rw [hq] at h; cases h
        | some p1 =>
          obtain ⟨w1, r1⟩ := p1
          rw [hq] at h
          have := aut_wlen f _ _ _ _ h
          have := (qscan_len hq).1
          simp; omega
    · have h5 := aut_wlen f _ _ _ _ h
      have h4 : (endW op ws w).length ≤ ws.length + 1 := by unfold endW; cases op <;> simp
      simp; omega
/-- the program's words, handed out -/
def got10 (whole : List Int) : Option (List ByteArray) → (((((Nat × Nat) × Int × Unit) × Unit) × (List Int × List ByteArray × Unit) × Unit) ⊕ (((Unit × Int × Unit) × Unit) × (List Int × Unit) × Unit) ⊕ (((Unit × Int × Unit) × Unit) × (List Int × List ByteArray × Unit) × Unit))
  | none => F10.r_1 100 whole
  | some l => F10.r_2 0 whole l
theorem F10_words (k : Nat) (whole b : List Int) (off : Nat) (hget : ∀ (i : Nat) (h : i < b.length), whole.getD (off + i) 0 = b[i]) (hb : b.length ≤ 4000000) (hk : b.length < k) : F10.go k (off, b.length) false whole = some (got10 whole (refS (b.length + 1) [] b)) := by
  have h : F10.l_444 k (((), (off, b.length), 0, ()), (whole, ((), (), false, ()), [], [], ()), ()) = some (outM whole (aut (b.length + 1) false [] [] (b.drop 0))) := m_loop k whole b off hget hb hk k (b.length + 1) 0 false [] [] (Nat.zero_le _) (by omega) (by omega) (by simp) (by simp)
  rw [List.drop_zero] at h
  rw [← aut_ref (b.length + 1) (b.length + 1) [] b (by omega) (by omega)]
  unfold F10.go
  simp only [cond_false, h, Option.bind_some]
  cases ha : aut (b.length + 1) false [] [] b with
  | none => rfl
  | some p =>
    obtain ⟨op, ws, w⟩ := p
    have := aut_wlen _ _ _ _ _ ha
    simp only [outM, Sum.elim_inr, F35_eq k op ws w (by simp at this; omega), Option.bind_some, Sum.elim_inl, Option.map_some, finE]
    rfl
end Go.Proofs.Tryd.S

namespace Go.Proofs.Tryd.S
open Go Go.Ev
/-! ### bytes 0 -/
def isB (l : List Int) : Prop := ∀ n ∈ l, 0 ≤ n ∧ n ≤ 255
def u8 (l : List Int) : List UInt8 := l.map fun n => UInt8.ofNat n.toNat
theorem strOf_u8 (l : List Int) : strOf l = arr (u8 l) := rfl
def zc : List UInt8 → Nat
  | [] => 0
  | c :: r => bif c == 0 then zc r + 1 else zc r
def pos : List UInt8 → Nat
  | [] => 0
  | c :: r => bif c == 0 then 0 else pos r + 1
def spl : Nat → List UInt8 → List (List UInt8)
  | 0, l => [l]
  | n + 1, l => l.take (pos l) :: spl n (l.drop (pos l + 1))
theorem zc_count : ∀ l : List UInt8, Lib.countByte l 0 = zc l
  | [] => rfl
  | c :: r => by
    have ih := zc_count r
    unfold Lib.countByte at *
    rw [List.count_cons, ih, zc]
    cases c == 0 <;> rfl
theorem ix_pos : ∀ l : List UInt8, (zc l = 0 ∧ Lib.indexByte l 0 = -1) ∨ (0 < zc l ∧ Lib.indexByte l 0 = (pos l : Int) ∧ pos l < l.length ∧ zc (l.drop (pos l + 1)) + 1 = zc l)
  | [] => .inl ⟨rfl, rfl⟩
  | c :: r => by
    have e : Lib.indexByte (c :: r) 0 = if c == 0 then 0 else if Lib.indexByte r 0 == -1 then -1 else Lib.indexByte r 0 + 1 := rfl
    have ez : zc (c :: r) = bif c == 0 then zc r + 1 else zc r := rfl
    have ep : pos (c :: r) = bif c == 0 then 0 else pos r + 1 := rfl
    rw [e, ez, ep]
    cases hc : c == 0
    · simp only [cond_false, Bool.false_eq_true, if_false]
      rcases ix_pos r with ⟨h1, h2⟩ | ⟨h1, h2, h3, h4⟩
      · left; rw [h2]; exact ⟨h1, rfl⟩
      · right
        have : ((pos r : Int) == -1) = false := by
          have : (pos r : Int) ≠ -1 := by omega
          simp [this]
        rw [h2, this]
        refine ⟨h1, by simp, by simp; exact h3, ?_⟩
        simp only [List.drop_succ_cons]; exact h4
    · right
      exact ⟨Nat.succ_pos _, rfl, by simp, rfl⟩
def sep0 : ByteArray := ⟨⟨[OfNat.ofNat 0]⟩⟩
theorem sep0_list : ByteArray.toList sep0 = [0] := arr_toList [0]
theorem F59_zero (k : Nat) (l : List UInt8) : F59.go k (arr l) sep0 = some ((Lib.indexByte l 0, ()), (), ()) := by
  have e1 : (((ByteArray.size sep0 : Nat) : Int) == 0) = false := rfl
  have e2 : (((ByteArray.size sep0 : Nat) : Int) == 1) = true := rfl
  have e3 : decide ((0 : Int) < ((ByteArray.size sep0 : Nat) : Int)) = true := rfl
  unfold F59.go
  rw [e1, e2, e3, sep0_list, arr_toList]
  by_cases h : ([0] : List UInt8) = l
  · subst h; rfl
  · have : (([0] : List UInt8) == l) = false := by simpa using h
    rw [this]; rfl
theorem F55_zero (k : Nat) (l : List UInt8) : F55.go k (arr l) sep0 = some ((Lib.indexByte l 0, ()), (), ()) := by
  unfold F55.go
  rw [F59_zero]; rfl
theorem F53_zero (k : Nat) (l : List UInt8) : F53.go k (arr l) sep0 = some (((zc l : Int), ()), (), ()) := by
  have e1 : (((ByteArray.size sep0 : Nat) : Int) == 0) = false := rfl
  have e2 : (((ByteArray.size sep0 : Nat) : Int) == 1) = true := rfl
  have e3 : decide ((0 : Int) < ((ByteArray.size sep0 : Nat) : Int)) = true := rfl
  unfold F53.go
  rw [e1, e2, e3]
  simp only [cond_true, cond_false]
  have : cnS (arr l) (((UInt8.toNat (Array.getD (ByteArray.data sep0) 0 (OfNat.ofNat 0)) : Nat) : Int)) = (zc l : Int) := by
    rw [← zc_count]; rfl
  rw [this]
theorem set_mid {α : Type} (a : List α) (x y : α) (r : List α) : (a ++ x :: r).set a.length y = a ++ y :: r := by
  rw [List.set_append_right _ _ (Nat.le_refl _)]; simp
def em : ByteArray := ⟨⟨[]⟩⟩
theorem z_loop (k0 : Nat) : ∀ (k n : Nat) (l : List UInt8) (done : List ByteArray), l.length ≤ 4000000 → done.length + n ≤ 4000000 → zc l = n → n < k →
    ∃ (last : ByteArray) (row : List ByteArray), loopN (F52.s2044 k0) k (F52.i2044 done.length (arr l) sep0 0 ((done.length + n : Nat) : Int) (done ++ List.replicate (n + 1) em)) = some (F52.r2044 ((done.length + n : Nat) : Int) last row) ∧
      row.length = done.length + n + 1 ∧ row.set (done.length + n) last = done ++ (spl n l).map arr
  | 0, n, l, done, _, _, _, h => absurd h (Nat.not_lt_zero _)
  | k + 1, 0, l, done, hl, hd, hz, hk => by
    refine ⟨arr l, done ++ [em], loopN_inr ?_, by simp, ?_⟩
    · unfold F52.s2044 F52.go2044
      simp only [Nat.add_zero, Int.lt_irrefl, decide_false, cond_false]
      rfl
    · rw [Nat.add_zero, set_mid]; rfl
  | k + 1, n + 1, l, done, hl, hd, hz, hk => by
    rcases ix_pos l with ⟨h1, _⟩ | ⟨h1, h2, h3, h4⟩
    · omega
    · have c0 : ((done.length : Nat) : Int) < ((done.length + (n + 1) : Nat) : Int) := by omega
      have g0 : ¬ ((pos l : Int) < 0) := by omega
      have w1 : IntKind.i64.wrap ((pos l : Int) + 0) = (pos l : Int) := by rw [wrap_id (by omega) (by omega)]; omega
      have hsz : (arr l).size = l.length := arr_size l
      have z1 : (0 : Int) ≤ (pos l : Int) := by omega
      have z2 : (pos l : Int) ≤ (((arr l).size : Nat) : Int) := by rw [hsz]; omega
      have z3 : (0 : Int) ≤ ((done.length : Nat) : Int) := by omega
      have z4 : ((done.length : Nat) : Int) < (((done ++ List.replicate (n + 1 + 1) em).length : Nat) : Int) := by simp; omega
      have w2 : IntKind.i64.wrap ((pos l : Int) + ((sep0.size : Nat) : Int)) = ((pos l + 1 : Nat) : Int) := by
        have : ((sep0.size : Nat) : Int) = 1 := rfl
        rw [this, wrap_id (by omega) (by omega)]; omega
      have z5 : (0 : Int) ≤ ((pos l + 1 : Nat) : Int) := by omega
      have z6 : ((pos l + 1 : Nat) : Int) ≤ (((arr l).size : Nat) : Int) := by rw [hsz]; omega
      have w3 : IntKind.i64.wrap (((done.length : Nat) : Int) + 1) = ((done.length + 1 : Nat) : Int) := by rw [wrap_id (by omega) (by omega)]; omega
      have x1 : (arr l).extract (pos l + 1) (arr l).size = arr (l.drop (pos l + 1)) := arr_extract_size l _
      have x2 : (arr l).extract 0 (pos l) = arr (l.take (pos l)) := by rw [arr_extract, List.drop_zero, Nat.sub_zero]
      have x3 : (done ++ List.replicate (n + 1 + 1) em).set done.length (arr (l.take (pos l))) = (done ++ [arr (l.take (pos l))]) ++ List.replicate (n + 1) em := by
        rw [List.replicate_succ, set_mid]; simp
      have s : F52.s2044 k0 (F52.i2044 done.length (arr l) sep0 0 ((done.length + (n + 1) : Nat) : Int) (done ++ List.replicate (n + 1 + 1) em)) =
          some (.inl (F52.i2044 ((done.length + 1 : Nat) : Int) (arr (l.drop (pos l + 1))) sep0 0 ((done.length + (n + 1) : Nat) : Int) ((done ++ [arr (l.take (pos l))]) ++ List.replicate (n + 1) em))) := by
        unfold F52.s2044 F52.go2044
        simp only [c0, decide_true, cond_true, F55_zero, Option.bind_some, h2, g0, decide_false, cond_false, w1, z1, z2, Bool.and_self, Bool.and_true, z3, z4, w2, z5, z6, Int.toNat_natCast, x1, x2, x3, w3]
      have hl2 : (l.drop (pos l + 1)).length ≤ 4000000 := by rw [List.length_drop]; omega
      have hd2 : (done ++ [arr (l.take (pos l))]).length = done.length + 1 := by simp
      obtain ⟨last, row, r1, r2, r3⟩ := z_loop k0 k n (l.drop (pos l + 1)) (done ++ [arr (l.take (pos l))]) hl2 (by omega) (by omega) (by omega)
      rw [hd2] at r1 r2 r3
      have e : done.length + 1 + n = done.length + (n + 1) := by omega
      rw [e] at r1 r2 r3
      refine ⟨last, row, (loopN_inl s).trans r1, r2, r3.trans ?_⟩
      simp [spl]
end Go.Proofs.Tryd.S

namespace Go.Proofs.Tryd.S
open Go Go.Ev
theorem zc_le : ∀ l : List UInt8, zc l ≤ l.length
  | [] => Nat.le_refl _
  | c :: r => by
    have := zc_le r
    have ez : zc (c :: r) = bif c == 0 then zc r + 1 else zc r := rfl
    rw [ez]
    cases c == 0 <;> simp <;> omega
theorem spl_len : ∀ (n : Nat) (l : List UInt8), (spl n l).length = n + 1
  | 0, l => rfl
  | n + 1, l => by simp [spl, spl_len n]
theorem em_list : ByteArray.toList em = [] := arr_toList []
def zrows (l : List UInt8) : List ByteArray := (spl (zc l) l).map arr
theorem zrows_len (l : List UInt8) : (zrows l).length = zc l + 1 := by unfold zrows; rw [List.length_map, spl_len]
theorem F52_zero (k : Nat) (l : List UInt8) (hl : l.length ≤ 3000000) (hk : l.length < k) : F52.go k (arr l) sep0 0 (-1) = some (F52.r (0, zc l + 1) (zrows l)) := by
  have hz := zc_le l
  have e1 : ((-1 : Int) == 0) = false := rfl
  have e2 : (ByteArray.toList sep0 == ByteArray.toList { data := { toList := [] } }) = false := by
    rw [sep0_list, show ByteArray.toList { data := { toList := [] } } = [] from em_list]; rfl
  have e3 : decide ((-1 : Int) < 0) = true := rfl
  have hsz : (arr l).size = l.length := arr_size l
  have w1 : IntKind.i64.wrap ((zc l : Int) + 1) = ((zc l + 1 : Nat) : Int) := by rw [wrap_id (by omega) (by omega)]; omega
  have w2 : IntKind.i64.wrap ((((arr l).size : Nat) : Int) + 1) = ((l.length + 1 : Nat) : Int) := by rw [hsz, wrap_id (by omega) (by omega)]; omega
  have c1 : ¬ (((l.length + 1 : Nat) : Int) < ((zc l + 1 : Nat) : Int)) := by omega
  have c2 : (0 : Int) ≤ ((zc l + 1 : Nat) : Int) := by omega
  have c3 : 16 * ((zc l + 1 : Nat) : Int) ≤ 281474976710656 := by omega
  have c4 : ((zc l + 1 : Nat) : Int) ≤ 9223372036854775807 := by omega
  have w3 : IntKind.i64.wrap (((zc l + 1 : Nat) : Int) - 1) = ((zc l : Nat) : Int) := by rw [wrap_id (by omega) (by omega)]; omega
  obtain ⟨last, row, h1, h2, h3⟩ := z_loop k k (zc l) l [] (by omega) (by simp; omega) rfl (by omega)
  simp only [List.length_nil, Nat.zero_add, List.nil_append] at h1 h2 h3
  have h1' : F52.l_2044 k ((0, (), arr l, sep0, 0, ((zc l : Nat) : Int), ()), (List.replicate (zc l + 1) { data := { toList := [] } }, ()), ()) = some (F52.r2044 ((zc l : Nat) : Int) last row) := h1
  have c5 : (0 : Int) ≤ ((zc l : Nat) : Int) := by omega
  have c6 : ((zc l : Nat) : Int) < ((row.length : Nat) : Int) := by omega
  have c7 : ((zc l + 1 : Nat) : Int) ≤ (((row.set (zc l) last).length : Nat) : Int) := by rw [List.length_set]; omega
  unfold F52.go
  simp only [e1, e2, e3, cond_false, cond_true, F53_zero, Option.bind_some, w1]
  unfold F52.go31
  simp only [w2, c1, decide_false, cond_false, c2, c3, c4, Int.le_refl, decide_true, Bool.and_self, Bool.and_true, cond_true, Int.toNat_natCast, w3, h1', Option.bind_some, c5, c6, w1, c7, Nat.sub_zero]
  rw [h3]; rfl
theorem F47_zero (k : Nat) (l : List UInt8) (hl : l.length ≤ 3000000) (hk : l.length < k) : F47.go k (arr l) sep0 = some (F47.r (0, zc l + 1) (zrows l)) := by
  unfold F47.go
  rw [F52_zero k l hl hk]; rfl
/-- how many rows are kept -/
def zkeep (l : List UInt8) : Nat := bif ((zrows l).getD (zc l) em).size == 0 then zc l else zc l + 1
theorem em_size (d : ByteArray) : (ByteArray.toList d == ByteArray.toList { data := { toList := [] } }) = (d.size == 0) := by
  rw [show ByteArray.toList { data := { toList := [] } } = [] from em_list]
  have : d = arr d.data.toList := rfl
  rw [this, arr_toList, arr_size]
  cases d.data.toList <;> rfl
theorem F34_zero (k : Nat) (whole b : List Int) (off : Nat) (hw : (whole.drop off).take b.length = b) (hb : b.length ≤ 3000000) (hk : b.length < k) : F34.go k (off, b.length) whole = some (F34.r (0, zkeep (u8 b)) whole (zrows (u8 b))) := by
  have hu : (u8 b).length = b.length := by unfold u8; rw [List.length_map]
  have h47 : F47.go k (strOf b) { data := { toList := [OfNat.ofNat 0] } } = some (F47.r (0, zc (u8 b) + 1) (zrows (u8 b))) := F47_zero k (u8 b) (by omega) (by omega)
  have hz := zc_le (u8 b)
  have w1 : IntKind.i64.wrap (((zc (u8 b) + 1 : Nat) : Int) - 1) = ((zc (u8 b) : Nat) : Int) := by rw [wrap_id (by omega) (by omega)]; omega
  have c1 : (0 : Int) ≤ ((zc (u8 b) : Nat) : Int) := by omega
  have c2 : ((zc (u8 b) : Nat) : Int) < ((zc (u8 b) + 1 : Nat) : Int) := by omega
  have c3 : ((zc (u8 b) : Nat) : Int) ≤ ((zc (u8 b) + 1 : Nat) : Int) := by omega
  unfold F34.go
  simp only [hw, h47, Option.bind_some, w1, c1, c2, c3, decide_true, Bool.and_self, Bool.and_true, cond_true, Int.toNat_natCast, em_size, Nat.zero_add, Nat.sub_zero]
  unfold zkeep
  show (bif ((zrows (u8 b)).getD (zc (u8 b)) em).size == 0 then _ else _) = _
  cases ((zrows (u8 b)).getD (zc (u8 b)) em).size == 0 <;> rfl
end Go.Proofs.Tryd.S

namespace Go.Proofs.Tryd.S
open Go Go.Ev
def refZ : List UInt8 → List UInt8 → List (List UInt8)
  | acc, [] => bif acc.isEmpty then [] else [acc]
  | acc, c :: r => bif c == 0 then acc :: refZ [] r else refZ (acc ++ [c]) r
def keepN (n : Nat) (L : List (List UInt8)) : List (List UInt8) := bif (L.getD n []).isEmpty then L.take n else L.take (n + 1)
theorem pos_acc : ∀ (acc r : List UInt8), zc acc = 0 → pos (acc ++ 0 :: r) = acc.length
  | [], r, _ => rfl
  | c :: a, r, h => by
    have ez : zc (c :: a) = bif c == 0 then zc a + 1 else zc a := rfl
    have ep : pos (c :: (a ++ 0 :: r)) = bif c == 0 then 0 else pos (a ++ 0 :: r) + 1 := rfl
    rw [ez] at h
    rw [List.cons_append, ep]
    cases hc : c == 0 <;> rw [hc] at h <;> simp only [cond_true, cond_false] at h ⊢
    · rw [pos_acc a r h]; rfl
    · omega
theorem zc_snoc : ∀ (acc : List UInt8) (c : UInt8), (c == 0) = false → zc (acc ++ [c]) = zc acc
  | [], c, h => by show (bif c == 0 then _ else _) = _; rw [h]; rfl
  | d :: a, c, h => by
    show (bif d == 0 then zc (a ++ [c]) + 1 else zc (a ++ [c])) = (bif d == 0 then zc a + 1 else zc a)
    rw [zc_snoc a c h]
theorem refZ_spl : ∀ (l acc : List UInt8), zc acc = 0 → refZ acc l = keepN (zc l) (spl (zc l) (acc ++ l))
  | [], acc, h => by
    rw [List.append_nil]
    show (bif acc.isEmpty then [] else [acc]) = (bif acc.isEmpty then _ else _)
    cases acc.isEmpty <;> rfl
  | c :: r, acc, h => by
    have ez : zc (c :: r) = bif c == 0 then zc r + 1 else zc r := rfl
    show (bif c == 0 then acc :: refZ [] r else refZ (acc ++ [c]) r) = _
    rw [ez]
    cases hc : c == 0
    · simp only [cond_false]
      rw [refZ_spl r (acc ++ [c]) (by rw [zc_snoc acc c hc]; exact h), List.append_assoc]; rfl
    · have : c = 0 := by simpa using hc
      subst this
      simp only [cond_true]
      rw [refZ_spl r [] rfl]
      have hs : spl (zc r + 1) (acc ++ 0 :: r) = acc :: spl (zc r) r := by
        show (acc ++ 0 :: r).take (pos (acc ++ 0 :: r)) :: spl (zc r) ((acc ++ 0 :: r).drop (pos (acc ++ 0 :: r) + 1)) = _
        rw [pos_acc acc r h, List.take_left' rfl]
        congr 1
        rw [show acc ++ 0 :: r = (acc ++ [0]) ++ r by simp, List.drop_left' (by simp)]
      rw [hs]
      unfold keepN
      rw [List.getD_cons_succ, List.nil_append]
      cases ((spl (zc r) r).getD (zc r) []).isEmpty <;> rfl
theorem keep_rows (l : List UInt8) : (zrows l).take (zkeep l) = (refZ [] l).map arr := by
  rw [refZ_spl l [] rfl, List.nil_append]
  unfold zkeep keepN
  have hlen := spl_len (zc l) l
  have h1 : (zrows l).getD (zc l) em = arr ((spl (zc l) l).getD (zc l) []) := by
    unfold zrows
    rw [List.getD_eq_getElem?_getD, List.getD_eq_getElem?_getD, List.getElem?_map]
    cases (spl (zc l) l)[zc l]? <;> rfl
  have h2 : ((arr ((spl (zc l) l).getD (zc l) [])).size == 0) = ((spl (zc l) l).getD (zc l) []).isEmpty := by
    rw [arr_size]; cases (spl (zc l) l).getD (zc l) [] <;> rfl
  rw [h1, h2]
  unfold zrows
  cases ((spl (zc l) l).getD (zc l) []).isEmpty <;> simp [List.map_take]
theorem isZ (c : Int) (h : 0 ≤ c ∧ c ≤ 255) : (UInt8.ofNat c.toNat == 0) = (c == 0) := by
  rw [Bool.eq_iff_iff, beq_iff_eq, beq_iff_eq]
  constructor
  · intro e
    have : (UInt8.ofNat c.toNat).toNat = (0 : UInt8).toNat := by rw [e]
    rw [UInt8.toNat_ofNat'] at this
    have h3 : (0 : UInt8).toNat = 0 := rfl
    omega
  · intro e; subst e; rfl
theorem r_loop (k0 : Nat) (b : List Int) (hb : b.length ≤ 3000000) (hB : isB b) : ∀ (k i fr : Nat) (out : List ByteArray), fr ≤ i → i ≤ b.length → b.length - i < k → out.length ≤ i →
    ∃ (fr' : Nat) (out' : List ByteArray), loopN (F11.s938 k0) k (F11.i938 i fr b b.length out) = some (F11.r938 fr' b out') ∧ fr' ≤ b.length ∧ out'.length ≤ b.length ∧
      out' ++ (if fr' < b.length then [strOf (b.drop fr')] else []) = out ++ (refZ (u8 ((b.take i).drop fr)) (u8 (b.drop i))).map arr
  | 0, i, fr, out, _, _, hk, _ => absurd hk (Nat.not_lt_zero _)
  | k + 1, i, fr, out, hf, hi, hk, ho => by
    rcases Nat.lt_or_ge i b.length with c | c
    · have h0 : (i : Int) < (b.length : Int) := by omega
      have h0' : (0 : Int) ≤ (i : Int) := by omega
      have hle : (i : Int) ≤ (b.length : Int) := by omega
      have hf0 : (0 : Int) ≤ (fr : Int) := by omega
      have hfi : (fr : Int) ≤ (i : Int) := by omega
      have hg : b.getD i 0 = b[i] := Go.Ev.getD_in c
      have hwr : IntKind.i64.wrap ((i : Int) + 1) = ((i + 1 : Nat) : Int) := by rw [wrap_id (by omega) (by omega)]; rfl
      have hz := isZ b[i] (hB b[i] (List.getElem_mem c))
      have hud : u8 (b.drop i) = UInt8.ofNat (b[i]).toNat :: u8 (b.drop (i + 1)) := by rw [drop_int c]; rfl
      have hut : u8 ((b.take (i + 1)).drop fr) = u8 ((b.take i).drop fr) ++ [UInt8.ofNat (b[i]).toNat] := by
        rw [List.take_succ_eq_append_getElem c, List.drop_append_of_le_length (by rw [List.length_take]; omega)]
        unfold u8; rw [List.map_append]; rfl
      rw [hud]
      show ∃ fr' out', _ ∧ _ ∧ _ ∧ _ = out ++ (bif UInt8.ofNat (b[i]).toNat == 0 then _ :: refZ [] (u8 (b.drop (i + 1))) else refZ (_ ++ [UInt8.ofNat (b[i]).toNat]) (u8 (b.drop (i + 1)))).map arr
      rw [hz]
      cases hc : b[i] == 0
      · have s : F11.s938 k0 (F11.i938 i fr b b.length out) = some (.inl (F11.i938 ((i + 1 : Nat) : Int) fr b b.length out)) := by
          unfold F11.s938 F11.go938
          simp only [h0, h0', decide_true, cond_true, Bool.and_self, Int.toNat_natCast, hg, hc, cond_false, hwr]
        obtain ⟨fr', out', g1, g2, g3, g4⟩ := r_loop k0 b hb hB k (i + 1) fr out (by omega) c (by omega) (by omega)
        refine ⟨fr', out', (loopN_inl s).trans g1, g2, g3, ?_⟩
        rw [g4, hut]; rfl
      · have hl : (out ++ [strOf ((b.take i).drop fr)]).length ≤ 8000000 := by simp; omega
        have s : F11.s938 k0 (F11.i938 i fr b b.length out) = some (.inl (F11.i938 ((i + 1 : Nat) : Int) ((i + 1 : Nat) : Int) b b.length (out ++ [strOf ((b.take i).drop fr)]))) := by
          unfold F11.s938 F11.go938
          simp only [h0, h0', hle, hf0, hfi, decide_true, cond_true, Bool.and_self, Int.toNat_natCast, hg, hc, hwr, ble16 hl]
        obtain ⟨fr', out', g1, g2, g3, g4⟩ := r_loop k0 b hb hB k (i + 1) (i + 1) (out ++ [strOf ((b.take i).drop fr)]) (Nat.le_refl _) c (by omega) (by simp; omega)
        refine ⟨fr', out', (loopN_inl s).trans g1, g2, g3, ?_⟩
        have e0 : (b.take (i + 1)).drop (i + 1) = [] := List.drop_eq_nil_of_le (by rw [List.length_take]; omega)
        rw [g4, e0, List.append_assoc]
        rfl
    · have : i = b.length := Nat.le_antisymm hi c
      subst this
      refine ⟨fr, out, loopN_inr ?_, hf, ho, ?_⟩
      · unfold F11.s938 F11.go938
        simp only [Int.lt_irrefl, decide_false, cond_false]
      · rw [List.take_length, List.drop_length]
        congr 1
        by_cases q : fr < b.length
        · rw [if_pos q]
          have hne : (u8 (b.drop fr)).isEmpty = false := by
            rw [drop_int q]; rfl
          show _ = (bif (u8 (b.drop fr)).isEmpty then [] else [u8 (b.drop fr)]).map arr
          rw [hne]; rfl
        · rw [if_neg q, List.drop_eq_nil_of_le (by omega)]; rfl
theorem F11_zero (k : Nat) (b : List Int) (hb : b.length ≤ 3000000) (hB : isB b) (hk : b.length < k) : F11.go k b true = some (F11.r 0 ((refZ [] (u8 b)).map arr)) := by
  obtain ⟨fr, out, h1, h2, h3, h4⟩ := r_loop k b hb hB k 0 0 [] (Nat.le_refl _) (Nat.zero_le _) (by omega) (by simp)
  have h1' : F11.l_938 k ((0, 0, b, (), (b.length : Int), ()), ([], ()), ()) = some (F11.r938 fr b out) := h1
  have h4 : out ++ (if fr < b.length then [strOf (b.drop fr)] else []) = (refZ [] (u8 b)).map arr := h4
  have z : (0 : Int) ≤ (fr : Int) := by omega
  unfold F11.go
  simp only [cond_true, h1', Option.bind_some]
  by_cases q : fr < b.length
  · have q' : (fr : Int) < (b.length : Int) := by omega
    have q2 : (fr : Int) ≤ (b.length : Int) := by omega
    have hl : (out ++ [strOf (b.drop fr)]).length ≤ 8000000 := by simp; omega
    rw [if_pos q] at h4
    simp only [q', q2, z, decide_true, cond_true, Bool.and_self, Int.toNat_natCast, ble16 hl]
    rw [← h4]
  · have q' : ¬ (fr : Int) < (b.length : Int) := by omega
    rw [if_neg q, List.append_nil] at h4
    simp only [q', decide_false, cond_false]
    rw [← h4]
end Go.Proofs.Tryd.S

namespace Go.Proofs.Tryd.S
open Go Go.Ev
theorem F15_eq (k : Nat) : F15.go (k + 200) = some ((true, ()), (), ()) := by kernel_rfl
theorem set_at {α : Type} (a : List α) (x y : α) (r : List α) {n : Nat} (h : n = a.length) : (a ++ x :: r).set n y = a ++ y :: r := by
  subst h; exact set_mid a x y r
/-! ### Lend -/
theorem lend_loop (k0 : Nat) (b : List Int) (hb : b.length ≤ 3000000) : ∀ (k i : Nat), i ≤ b.length → b.length - i < k →
    loopN (F9.s122 k0) k (F9.i122 i b b b.length (165 :: (b.take i ++ (List.replicate (b.length - i) 0 ++ [90])))) = some (F9.r122 b (165 :: (b ++ [90])))
  | 0, i, _, hk => absurd hk (Nat.not_lt_zero _)
  | k + 1, i, hi, hk => by
    rcases Nat.lt_or_ge i b.length with c | c
    · have h0 : (i : Int) < (b.length : Int) := by omega
      have h0' : (0 : Int) ≤ (i : Int) := by omega
      have hg : b.getD i 0 = b[i] := Go.Ev.getD_in c
      have hwr : IntKind.i64.wrap ((i : Int) + 1) = ((i + 1 : Nat) : Int) := by rw [wrap_id (by omega) (by omega)]; rfl
      have z1 : (0 : Int) ≤ ((i + 1 : Nat) : Int) := by omega
      have z2 : ((i + 1 : Nat) : Int) < (((165 :: (b.take i ++ (List.replicate (b.length - i) 0 ++ [90]))).length : Nat) : Int) := by simp; omega
      have es : (165 :: (b.take i ++ (List.replicate (b.length - i) 0 ++ [90]))).set (i + 1) b[i] = 165 :: (b.take (i + 1) ++ (List.replicate (b.length - (i + 1)) 0 ++ [90])) := by
        rw [List.set_cons_succ, show b.length - i = (b.length - (i + 1)) + 1 by omega, List.replicate_succ, List.cons_append,
          set_at (b.take i) 0 b[i] _ (by rw [List.length_take]; omega), List.take_succ_eq_append_getElem c, List.append_assoc]
        rfl
      have s : F9.s122 k0 (F9.i122 i b b b.length (165 :: (b.take i ++ (List.replicate (b.length - i) 0 ++ [90])))) = some (.inl (F9.i122 ((i + 1 : Nat) : Int) b b b.length (165 :: (b.take (i + 1) ++ (List.replicate (b.length - (i + 1)) 0 ++ [90]))))) := by
        unfold F9.s122 F9.go122
        simp only [h0, h0', decide_true, cond_true, Bool.and_self, Int.toNat_natCast, hg, hwr, z1, z2, es]
      exact (loopN_inl s).trans (lend_loop k0 b hb k (i + 1) c (by omega))
    · have : i = b.length := Nat.le_antisymm hi c
      subst this
      refine loopN_inr ?_
      unfold F9.s122 F9.go122
      simp only [Int.lt_irrefl, decide_false, cond_false, List.take_length, Nat.sub_self, List.replicate_zero, List.nil_append]
theorem F9_eq (k : Nat) (b : List Int) (hb : b.length ≤ 3000000) (hk : b.length < k) : F9.go k b = some (F9.r (1, b.length) (165 :: (b ++ [90]))) := by
  have w2 : IntKind.i64.wrap ((b.length : Int) + 2) = ((b.length + 2 : Nat) : Int) := by rw [wrap_id (by omega) (by omega)]; rfl
  have w1 : IntKind.i64.wrap ((b.length : Int) + 1) = ((b.length + 1 : Nat) : Int) := by rw [wrap_id (by omega) (by omega)]; rfl
  have c1 : (0 : Int) ≤ ((b.length + 2 : Nat) : Int) := by omega
  have c2 : 1 * ((b.length + 2 : Nat) : Int) ≤ 281474976710656 := by omega
  have c3 : ((b.length + 2 : Nat) : Int) ≤ 9223372036854775807 := by omega
  have c4 : (0 : Int) < (((List.replicate (b.length + 2) (0 : Int)).length : Nat) : Int) := by rw [List.length_replicate]; omega
  have c5 : (0 : Int) ≤ ((b.length + 1 : Nat) : Int) := by omega
  have c6 : ((b.length + 1 : Nat) : Int) < ((((List.replicate (b.length + 2) (0 : Int)).set 0 165).length : Nat) : Int) := by rw [List.length_set, List.length_replicate]; omega
  have er : ((List.replicate (b.length + 2) (0 : Int)).set 0 165).set (b.length + 1) 90 = 165 :: (b.take 0 ++ (List.replicate (b.length - 0) 0 ++ [90])) := by
    rw [List.replicate_succ, List.set_cons_zero, List.set_cons_succ, List.replicate_succ', set_at (List.replicate b.length (0 : Int)) 0 90 [] (by rw [List.length_replicate])]
    rfl
  have hl : F9.l_122 k ((0, (), b, b, (b.length : Int), ()), (165 :: (b.take 0 ++ (List.replicate (b.length - 0) 0 ++ [90])), ()), ()) = some (F9.r122 b (165 :: (b ++ [90]))) := lend_loop k b hb k 0 (Nat.zero_le _) (by omega)
  have c7 : ((b.length + 1 : Nat) : Int) ≤ (((165 :: (b ++ [90])).length : Nat) : Int) := by simp; omega
  have c8 : (1 : Int) ≤ ((b.length + 1 : Nat) : Int) := by omega
  unfold F9.go
  simp only [w2, c1, c2, c3, Int.le_refl, decide_true, Bool.and_self, Bool.and_true, cond_true, Int.toNat_natCast, c4, w1, c5, c6, er, hl, Option.bind_some, c7, c8, Nat.add_sub_cancel]
/-! ### the writing, Texts, Kept -/
theorem fill_loop (k0 : Nat) (b : List Int) (hb : b.length ≤ 3000000) (e1 e2 : Int) (pr : Nat × Nat) (L M : List ByteArray) : ∀ (k i : Nat), i ≤ b.length → b.length - i < k →
    loopN (F3.s250 k0) k (F3.i250 i (1, b.length) b e1 e2 pr b.length (165 :: (List.replicate i 113 ++ (b.drop i ++ [90]))) L M) = some (F3.r250 b (1, b.length) e1 e2 pr (165 :: (List.replicate b.length 113 ++ [90])) L M)
  | 0, i, _, hk => absurd hk (Nat.not_lt_zero _)
  | k + 1, i, hi, hk => by
    rcases Nat.lt_or_ge i b.length with c | c
    · have h0 : (i : Int) < (b.length : Int) := by omega
      have h0' : (0 : Int) ≤ (i : Int) := by omega
      have hwr : IntKind.i64.wrap ((i : Int) + 1) = ((i + 1 : Nat) : Int) := by rw [wrap_id (by omega) (by omega)]; rfl
      have es : (165 :: (List.replicate i 113 ++ (b.drop i ++ [90]))).set (1 + i) 113 = 165 :: (List.replicate (i + 1) 113 ++ (b.drop (i + 1) ++ [90])) := by
        rw [Nat.add_comm 1 i, List.set_cons_succ, drop_int c, List.cons_append, set_at (List.replicate i 113) b[i] 113 _ (by rw [List.length_replicate]), List.replicate_succ']
        simp
      have s : F3.s250 k0 (F3.i250 i (1, b.length) b e1 e2 pr b.length (165 :: (List.replicate i 113 ++ (b.drop i ++ [90]))) L M) = some (.inl (F3.i250 ((i + 1 : Nat) : Int) (1, b.length) b e1 e2 pr b.length (165 :: (List.replicate (i + 1) 113 ++ (b.drop (i + 1) ++ [90]))) L M)) := by
        unfold F3.s250 F3.go250
        simp only [h0, h0', decide_true, cond_true, Bool.and_self, Int.toNat_natCast, hwr, es]
      exact (loopN_inl s).trans (fill_loop k0 b hb e1 e2 pr L M k (i + 1) c (by omega))
    · have : i = b.length := Nat.le_antisymm hi c
      subst this
      refine loopN_inr ?_
      unfold F3.s250 F3.go250
      simp only [Int.lt_irrefl, decide_false, cond_false, List.drop_length, List.nil_append]
theorem texts_loop (k0 : Nat) (L : List ByteArray) (hL : L.length ≤ 4000000) : ∀ (k i : Nat), i ≤ L.length → L.length - i < k → loopN (F12.s58 k0) k (F12.i58 i L L L.length) = some F12.r58_1
  | 0, i, _, hk => absurd hk (Nat.not_lt_zero _)
  | k + 1, i, hi, hk => by
    rcases Nat.lt_or_ge i L.length with c | c
    · have h0 : (i : Int) < (L.length : Int) := by omega
      have h0' : (0 : Int) ≤ (i : Int) := by omega
      have hwr : IntKind.i64.wrap ((i : Int) + 1) = ((i + 1 : Nat) : Int) := by rw [wrap_id (by omega) (by omega)]; rfl
      have s : F12.s58 k0 (F12.i58 i L L L.length) = some (.inl (F12.i58 ((i + 1 : Nat) : Int) L L L.length)) := by
        unfold F12.s58 F12.go58
        simp only [h0, h0', decide_true, cond_true, Bool.and_self, beq_self_eq_true, Bool.not_true, cond_false, hwr]
      exact (loopN_inl s).trans (texts_loop k0 L hL k (i + 1) c (by omega))
    · have : i = L.length := Nat.le_antisymm hi c
      subst this
      refine loopN_inr ?_
      unfold F12.s58 F12.go58
      simp only [Int.lt_irrefl, decide_false, cond_false]
theorem F12_eq (k : Nat) (L : List ByteArray) (hL : L.length ≤ 4000000) (hk : L.length < k) : F12.go k L L = some ((true, ()), (), ()) := by
  have h : F12.l_58 k ((0, L, L, (L.length : Int), ()), (), ()) = some F12.r58_1 := texts_loop k L hL k 0 (Nat.zero_le _) (by omega)
  have e : (((L.length : Nat) : Int) != ((L.length : Nat) : Int)) = false := by simp
  unfold F12.go
  simp only [e, cond_false, h, Option.bind_some]
  rfl
theorem F14_eq (k : Nat) (b : List Int) (hb : b.length ≤ 3000000) : F14.go k b (165 :: (b ++ [90])) = some (F14.r true (165 :: (b ++ [90]))) := by
  have w2 : IntKind.i64.wrap ((b.length : Int) + 2) = ((b.length + 2 : Nat) : Int) := by rw [wrap_id (by omega) (by omega)]; rfl
  have w1 : IntKind.i64.wrap ((b.length : Int) + 1) = ((b.length + 1 : Nat) : Int) := by rw [wrap_id (by omega) (by omega)]; rfl
  have hlen : (165 :: (b ++ [90]) : List Int).length = b.length + 2 := by simp
  have e1 : (((b.length + 2 : Nat) : Int) == ((b.length + 2 : Nat) : Int)) = true := by simp
  have c1 : (0 : Int) < ((b.length + 2 : Nat) : Int) := by omega
  have g1 : (165 :: (b ++ [90]) : List Int).getD 0 0 = 165 := rfl
  have g2 : (165 :: (b ++ [90]) : List Int).getD (b.length + 1) 0 = 90 := by simp [List.getD_eq_getElem?_getD]
  have c2 : (0 : Int) ≤ ((b.length + 1 : Nat) : Int) := by omega
  have c3 : ((b.length + 1 : Nat) : Int) < ((b.length + 2 : Nat) : Int) := by omega
  have c4 : ((b.length + 1 : Nat) : Int) ≤ ((b.length + 2 : Nat) : Int) := by omega
  have c5 : (1 : Int) ≤ ((b.length + 1 : Nat) : Int) := by omega
  have e2 : ((165 : Int) == 165) = true := rfl
  have e3 : ((90 : Int) == 90) = true := rfl
  have et : ((165 :: (b ++ [90]) : List Int).drop 1).take (b.length + 1 - 1) = b := by simp
  unfold F14.go
  simp only [hlen, w2, w1, e1, c1, g1, g2, c2, c3, c4, c5, e2, e3, decide_true, Bool.and_self, cond_true, Int.toNat_natCast, et, beq_self_eq_true]
end Go.Proofs.Tryd.S

namespace Go.Proofs.Tryd.S
open Go Go.Ev
theorem refS_len : ∀ (g : Nat) (ws : List ByteArray) (l : List Int) {r : List ByteArray}, refS g ws l = some r → r.length ≤ ws.length + l.length
  | 0, ws, l, r, h => by cases h
  | g + 1, ws, l, r, h => by
    unfold refS at h
    have hsl := skipB_len l
    cases hs : skipB l with
    | nil => rw [hs] at h; simp only at h; injection h with h; subst h; omega
    | cons c r1 =>
      rw [hs] at h hsl
      simp only at h
      have hc := skipB_head l hs
      cases hw : wordA (r1.length + 2) [] (c :: r1) with
      | none => rw [hw] at h; cases h
      | some p =>
        obtain ⟨w', l'⟩ := p
        rw [hw] at h
        have := wordA_lt hc hw
        have := refS_len g _ _ h
        simp at this hsl
        omega
theorem refZ_len : ∀ (acc l : List UInt8), (refZ acc l).length ≤ l.length + 1
  | acc, [] => by show (bif acc.isEmpty then [] else [acc] : List (List UInt8)).length ≤ _; cases acc.isEmpty <;> simp
  | acc, c :: r => by
    show (bif c == 0 then acc :: refZ [] r else refZ (acc ++ [c]) r).length ≤ _
    cases c == 0
    · have := refZ_len (acc ++ [c]) r; simp; omega
    · have := refZ_len [] r; simp; omega
/-- the rest of the law, once both have answered alike -/
theorem tail_ok (k : Nat) (b : List Int) (hb : b.length ≤ 3000000) (L M : List ByteArray) (e : Int) (pr : Nat × Nat) (hL : L.length ≤ 4000000) (hk : b.length < k) (hk2 : L.length < k) (hM : (M.drop pr.1).take pr.2 = L) :
    F3.l_250 k (F3.i250 0 (1, b.length) b e e pr b.length (165 :: (b ++ [90])) L M) = some (F3.r250 b (1, b.length) e e pr (165 :: (List.replicate b.length 113 ++ [90])) L M) :=
  fill_loop k b hb e e pr L M k 0 (Nat.zero_le _) (by omega)
theorem argsSplits (b : List Int) (z : Bool) (hB : isB b) (hb : b.length ≤ 1048576) : ∃ k, F3.go k b z = some ((true, ()), (), ()) := by
  refine ⟨b.length + 10 + 200, ?_⟩
  generalize hk : b.length + 10 = k1
  have h15 := F15_eq k1
  have h9 := F9_eq (k1 + 200) b (by omega) (by omega)
  have hget : ∀ (i : Nat) (h : i < b.length), (165 :: (b ++ [90])).getD (1 + i) 0 = b[i] := by
    intro i h
    rw [Nat.add_comm, List.getD_cons_succ, List.getD_eq_getElem?_getD, List.getElem?_append_left h, List.getElem?_eq_getElem h]; rfl
  have hw : ((165 :: (b ++ [90]) : List Int).drop 1).take b.length = b := by simp
  have hcp1 : (165 :: (List.replicate b.length 113 ++ [90]) : List Int).take 1 = [165] := rfl
  have hcp2 : b.take (min b.length b.length) = b := by rw [Nat.min_self, List.take_length]
  have hcp3 : (165 :: (List.replicate b.length 113 ++ [90]) : List Int).drop (1 + b.length) = [90] := by
    rw [Nat.add_comm, List.drop_succ_cons, List.drop_left' (by rw [List.length_replicate])]
  have hble : Nat.ble (1 + b.length) (165 :: (List.replicate b.length 113 ++ [90]) : List Int).length = true := by
    rw [Nat.ble_eq_true_of_le]; simp; omega
  have h14 := F14_eq (k1 + 200) b (by omega)
  have hcat : ([165] ++ b ++ [90] : List Int) = 165 :: (b ++ [90]) := rfl
  -- what follows, for one way out of the program's Split
  have fin : ∀ (L M : List ByteArray) (e : Int) (pr : Nat × Nat), L.length ≤ 2000000 → L.length < k1 + 200 → (M.drop pr.1).take pr.2 = L →
      F3.l_250 (k1 + 200) (F3.i250 0 (1, b.length) b e e pr b.length (165 :: (b ++ [90])) L M) = some (F3.r250 b (1, b.length) e e pr (165 :: (List.replicate b.length 113 ++ [90])) L M) ∧
      F12.go (k1 + 200) ((M.drop pr.1).take pr.2) L = some ((true, ()), (), ()) := by
    intro L M e pr h1 h2 h3
    refine ⟨tail_ok (k1 + 200) b (by omega) L M e pr (by omega) (by omega) h2 h3, ?_⟩
    rw [h3]; exact F12_eq _ L (by omega) h2
  unfold F3.go
  simp only [h9, Option.bind_some]
  cases z
  · -- words
    have h10 := F10_words (k1 + 200) (165 :: (b ++ [90])) b 1 hget (by omega) (by omega)
    have h11 := F11_words (k1 + 200) b (by omega) (by omega)
    rw [h10, h11]
    cases hr : refS (b.length + 1) [] b with
    | none =>
      obtain ⟨f1, f2⟩ := fin [] [] 100 (0, 0) (by simp) (by simp) rfl
      simp only [got10, outR, Option.bind_some, Sum.elim_inr, Sum.elim_inl, f1, f2, cond_true, F13.go, hble, Bool.and_self, Bool.and_true, beq_self_eq_true, hcp1, hcp2, hcp3, hcat, h14, h15]
    | some L =>
      have hlen := refS_len _ _ _ hr
      simp only [List.length_nil] at hlen
      obtain ⟨f1, f2⟩ := fin L L 0 (0, L.length) (by omega) (by omega) (by simp)
      simp only [got10, outR, Option.bind_some, Sum.elim_inr, Sum.elim_inl, f1, f2, cond_true, F13.go, hble, Bool.and_self, Bool.and_true, beq_self_eq_true, hcp1, hcp2, hcp3, hcat, h14, h15]
  · -- bytes 0
    have h34 := F34_zero (k1 + 200) (165 :: (b ++ [90])) b 1 hw (by omega) (by omega)
    have h11 := F11_zero (k1 + 200) b (by omega) hB (by omega)
    have h10 : F10.go (k1 + 200) (1, b.length) true (165 :: (b ++ [90])) = some (F10.r_0 (0, zkeep (u8 b)) 0 (165 :: (b ++ [90])) (zrows (u8 b))) := by
      unfold F10.go
      simp only [cond_true, h34, Option.bind_some]
    have hlen := refZ_len [] (u8 b)
    have hu : (u8 b).length = b.length := by unfold u8; rw [List.length_map]
    have hm : ((refZ [] (u8 b)).map arr).length ≤ b.length + 1 := by rw [List.length_map]; omega
    obtain ⟨f1, f2⟩ := fin ((refZ [] (u8 b)).map arr) (zrows (u8 b)) 0 (0, zkeep (u8 b)) (by omega) (by omega) (by rw [List.drop_zero]; exact keep_rows (u8 b))
    rw [h10, h11]
    simp only [Option.bind_some, Sum.elim_inr, Sum.elim_inl, f1, f2, cond_true, F13.go, hble, Bool.and_self, Bool.and_true, beq_self_eq_true, hcp1, hcp2, hcp3, hcat, h14, h15]
theorem isB_of_wf {l : List Int} (h : ∀ n ∈ l, (Lit.int .u8 n).wf = true) : isB l := by
  intro n hn
  have := h n hn
  have h2 : (IntKind.u8.min ≤ n ∧ n ≤ IntKind.u8.max) := by
    simpa only [Lit.wf, Bool.and_eq_true, decide_eq_true_eq] using this
  exact h2
end Go.Proofs.Tryd.S

