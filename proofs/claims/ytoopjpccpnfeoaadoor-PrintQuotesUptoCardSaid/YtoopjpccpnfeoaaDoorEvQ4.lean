/- An evaluator of the model's code over abstract values, and its soundness, part 4: what it tells of a piece of code, each run of that code does. -/
import Derived.Test.YtoopjpccpnfeoaaDoorEvQ3
import Derived.StillTail
import Derived.Recover
import Derived.Lib.IndexMore
import Derived.Lib.IndexAny
import Derived.Lib.SlTrimSet
import Derived.Lib.MakeNoZero
import Derived.Laws.AppendOwn
import Derived.Lib.Builder
import Derived.Lib.UnsafeStr
import Derived.Laws.NewBlocks
import Derived.CallsIn
import Derived.TacticsIn
import Derived.RangeFuncLeaves
import Derived.RangeFuncRecord
import Derived.RangeFuncSeq
import Derived.RangeFuncIn
import Derived.Laws.RangeString
import Derived.Laws.RangeAny
import Derived.Laws.BitsLemmas
import Derived.Laws.Strings2
import Derived.Deep.Slices
import Derived.OpenShut
set_option linter.unusedVariables false
set_option linter.unusedSimpArgs false
namespace Go.Ev
set_option linter.unusedSimpArgs false
set_option linter.unusedVariables false
/-! ### regions that draw the order of their first operations, and go on in order -/
def evS {R : Type} (P : Program) (o : Oper) (st : St) (K : X → St → Option R) : Option R :=
  match o.op with
  | .move x => evMove o x st K
  | .assign x => evMove o x st K
  | .load t x => evLoad P o t x st K
  | .slice t x lo hi none => evSlice P o t x lo hi st K
  | .indexAddr t x i => evIndexAddr P o t x i st K
  | .build t ps => evBuild P o t ps st K
  | _ => evScalar P o st K
theorem move_fin {R : Type} {P : Program} {o : Oper} {st : St} {K : X → St → Option R} {r : R} {x : Operand} (ho : o.op = .move x ∨ o.op = .assign x) (h : evMove o x st K = some r) : Fin P o st K r := by
  obtain ⟨y, h1, h2⟩ := evMove_get h
  refine fin_intro h2 (fun G ι ok a w hs => ⟨_, ?_, hs.opndR h1⟩)
  unfold execOp
  rcases ho with ho | ho <;> rw [ho] <;> rfl
theorem evS_fin {R : Type} {P : Program} {o : Oper} {st : St} {K : X → St → Option R} {r : R} (h : evS P o st K = some r) : Fin P o st K r := by
  unfold evS at h
  split at h
  · exact move_fin (.inl ‹_›) h
  · exact move_fin (.inr ‹_›) h
  · exact evLoad_fin ‹_› h
  · exact (evSlice_any ‹_› h).fin
  · exact evIndexAddr_fin ‹_› h
  · exact (evBuild_any ‹_› h).fin
  · exact evScalar_fin h
def evOpsS {R : Type} (P : Program) (all : Array Oper) : List Oper → St → (St → Option R) → Option R
  | [], st, K => K st
  | o :: r, st, K =>
    match o.guard with
    | none => evS P o st fun x st => match x with
      | .normal => evOpsS P all r st K
      | _ => none
    | some (j, want) =>
      match (all[j]?).bind (·.dst) with
      | some d => match look st.ts d with
        | some (.v (.bool b)) =>
          bif b then (bif want then (evS P o (st.know d true) fun x st => match x with
              | .normal => evOpsS P all r st K
              | _ => none) else (bif dstOk st.n o.dst then evOpsS P all r ((st.know d true).put o.dst (.v undef)) K else none))
          else (bif want then (bif dstOk st.n o.dst then evOpsS P all r ((st.know d false).put o.dst (.v undef)) K else none)
            else (evS P o (st.know d false) fun x st => match x with
              | .normal => evOpsS P all r st K
              | _ => none))
        | some (.v (.tuple _)) => bif dstOk st.n o.dst then evOpsS P all r (st.put o.dst (.v undef)) K else none
        | _ => none
      | none => none
def SRuns (P : Program) (all : Array Oper) (l : List Oper) (st st' : St) : Prop :=
  ∀ G ι ok a w, SimI G ι ok st a w → ∀ (Qf : Act → Prop), (∀ a', SimI G ι ok st' a' w → Qf a') → wpStill P all w Qf l a
theorem evOpsS_ok {R : Type} {P : Program} {all : Array Oper} : ∀ (l : List Oper) (st : St) (K : St → Option R) (r : R), evOpsS P all l st K = some r → ∃ st', SRuns P all l st st' ∧ K st' = some r := by
  intro l
  induction l with
  | nil => intro st K r h; exact ⟨st, fun G ι ok a w hs Qf hq => hq a hs, h⟩
  | cons o l ih =>
    intro st K r h
    have main : ∀ (st : St), (evS P o st fun x st => match x with
            | .normal => evOpsS P all l st K
            | _ => none) = some r → (∀ G ι ok a w, SimI G ι ok st a w → Region.wanted o (yielded all a.tmps) = true) → ∃ st', SRuns P all (o :: l) st st' ∧ K st' = some r := by
      intro st hE hw
      obtain ⟨x, h1, h2⟩ := evS_fin hE
      obtain ⟨h3, h4⟩ := fin_some h2
      obtain ⟨st', h5, h6⟩ := ih _ _ _ h4
      refine ⟨st', fun G ι ok a w hs Qf hq => ?_, h6⟩
      obtain ⟨v, g1, g2⟩ := h1 G ι ok a w hs
      unfold wpStill
      rw [if_pos (hw G ι ok a w hs)]
      unfold Oper.still
      rw [g1, Oper.stillUpon_value]
      exact h5 G ι ok _ w (hs.put h3 g2) Qf hq
    have over : ∀ (st : St), (bif dstOk st.n o.dst then evOpsS P all l (st.put o.dst (.v undef)) K else none) = some r → (∀ G ι ok a w, SimI G ι ok st a w → Region.wanted o (yielded all a.tmps) = false) →
        ∃ st', SRuns P all (o :: l) st st' ∧ K st' = some r := by
      intro st h hw
      cases hdk : dstOk st.n o.dst <;> rw [hdk] at h <;> simp only [cond_true, cond_false] at h
      · cases h
      · obtain ⟨st', h5, h6⟩ := ih _ _ _ h
        refine ⟨st', fun G ι ok a w hs Qf hq => ?_, h6⟩
        unfold wpStill
        rw [if_neg (by rw [hw G ι ok a w hs]; simp)]
        exact h5 G ι ok _ w (hs.put hdk (.v undef)) Qf hq
    unfold evOpsS at h
    split at h
    · rename_i hg
      exact main _ h (fun G ι ok a w hs => by unfold Region.wanted; rw [hg])
    · rename_i j want hg
      split at h
      · rename_i d hd
        have hy : ∀ {x : Value} {st : St}, look st.ts d = some (.v x) → ∀ G ι ok a w, SimI G ι ok st a w → yielded all a.tmps j = (match x with | .bool b => some b | _ => none) := by
          intro x st hb G ι ok a w hs
          obtain ⟨h1, h2⟩ := hs.slots _ _ hb
          have h2 := rep_v_inv h2
          unfold yielded
          rw [hd]
          have hlt : d < a.tmps.size := by rw [hs.size]; exact h1
          rw [Array.getD_eq_getD_getElem?, Array.getElem?_eq_getElem hlt] at h2
          simp only [Option.bind_some, Array.getElem?_eq_getElem hlt]
          simp only [Option.getD_some] at h2
          rw [h2]
          cases x <;> rfl
        split at h
        · rename_i b hb
          have hknow : look (st.know d b).ts d = some (.v (.bool b)) := by simp [St.know, look_cons]
          have up : ∀ G ι ok a w, SimI G ι ok st a w → SimI G ι ok (st.know d b) a w := by
            intro G ι ok a w hs
            refine { hs with slots := ?_ }
            intro t x hx
            simp only [St.know, look_cons] at hx
            split at hx
            · rename_i e; subst e; injection hx with hx; subst hx; exact hs.slots _ _ hb
            · exact hs.slots _ _ hx
          have hw : ∀ G ι ok a w, SimI G ι ok (st.know d b) a w → Region.wanted o (yielded all a.tmps) = (some b == some want) := by
            intro G ι ok a w hs
            unfold Region.wanted; rw [hg]
            show (yielded all a.tmps j == some want) = _
            rw [hy hknow G ι ok a w hs]
          have wrap : (∃ st', SRuns P all (o :: l) (st.know d b) st' ∧ K st' = some r) → ∃ st', SRuns P all (o :: l) st st' ∧ K st' = some r := by
            rintro ⟨st', h1, h2⟩
            exact ⟨st', fun G ι ok a w hs Qf hq => h1 G ι ok a w (up G ι ok a w hs) Qf hq, h2⟩
          refine wrap ?_
          cases b <;> cases want <;> simp only [cond_true, cond_false] at h
          · exact main _ h (fun G ι ok a w hs => by rw [hw G ι ok a w hs]; rfl)
          · exact over _ h (fun G ι ok a w hs => by rw [hw G ι ok a w hs]; rfl)
          · exact over _ h (fun G ι ok a w hs => by rw [hw G ι ok a w hs]; rfl)
          · exact main _ h (fun G ι ok a w hs => by rw [hw G ι ok a w hs]; rfl)
        · rename_i vs hb
          refine over _ h (fun G ι ok a w hs => ?_)
          unfold Region.wanted; rw [hg]
          show (yielded all a.tmps j == some want) = _
          rw [hy hb G ι ok a w hs]; rfl
        · cases h
      · cases h
/-- the first n operations in any order, the others in theirs -/
def drawTail {R : Type} (P : Program) (E : EvO R) (n : Nat) (ops : Array Oper) : St → (X → St → Option R) → Option R := fun st K =>
  bif P.follows .mixedOrders && Region.lexTailB .any ops n then evOpsS P ops (ops.toList.take n) st (fun st => evOps E ops (ops.toList.drop n) st K) else none
theorem drawTail_ok {R : Type} {P : Program} {E : EvO R} (hE : EOK P E) {id n : Nat} {ops : Array Oper} : LOK (R := R) P (drawTail P E n ops) (.region id ops true) := by
  intro st K r h
  obtain ⟨hc, h⟩ := cond_none h
  rw [Bool.and_eq_true] at hc
  obtain ⟨st', h1, h2⟩ := evOpsS_ok _ _ _ _ h
  obtain ⟨x, st2, h3, h4⟩ := evOps_ok hE _ _ _ _ h2
  refine ⟨x, st2, fun G a w Q hs hq => ?_, h4⟩
  obtain ⟨ι, ok, hs⟩ := hs
  have hg : Grown w { w with drawn := w.drawn + 1 } := ⟨rfl, rfl, rfl, Nat.le_refl _, fun _ _ => rfl⟩
  have key := wp_region_still_tail (P := P) (id := id) (Q := Q) (a := a) (w := w) (l := ops.toList) n hc.1 (by simpa using hc.2)
  have e : ops.toList.toArray = ops := by simp
  rw [e] at key
  refine key ?_
  refine h1 G ι ok a _ (hs.grow hg) _ (fun a' hs' => ?_)
  exact h3 G a' _ Q ⟨ι, ok, hs'⟩ hq
theorem LH.drawT {R : Type} {P : Program} {E : EvO R} (hE : EOK P E) {body : Code} {L : EvL R} {q n : Nat} (h : isDrawAt q body = true) (hL : LH P body L) : LH P body (consL q (drawTail P E n (drawOps q body)) L) := by
  unfold isDrawAt at h
  split at h
  · rename_i id ops hf
    have e : drawOps q body = ops := by unfold drawOps; rw [hf]
    rw [e]
    exact LH.cons hf (drawTail_ok hE) hL
  · cases h
end Go.Ev

namespace Go.Ev
set_option linter.unusedSimpArgs false
set_option linter.unusedVariables false
/-! ### regions that draw their order and change the world: reads may go first, changes come in their order -/
section
variable {P : Program} {ops : Array Oper} {md : Region.Mode}
/-- m: to each operation those that must have come up before it -/
def waitB (md : Region.Mode) (ops : Array Oper) (m : List Nat) : Bool :=
  (List.range ops.size).all fun j => (List.range ops.size).all fun i => !(Nat.testBit (m.getD j 0) i) ||
    (match ops[j]? with
    | some oj => oj.after.any fun e => Region.binds md e && (Nat.blt e.on j && (Nat.beq e.on i || Nat.testBit (m.getD e.on 0) i))
    | none => false)
theorem wait_spec {m : List Nat} (hB : waitB md ops m = true) : ∀ (j i : Nat), i < ops.size → j < ops.size → Nat.testBit (m.getD j 0) i = true → ∀ listed : Array Bool, HeadInv md ops ops.size listed →
    (∀ oj, ops[j]? = some oj → ∀ e ∈ oj.after, Region.binds md e = true → listed.getD e.on false = true) → listed.getD i false = true := by
  intro j
  induction j using Nat.strongRecOn with
  | _ j ih =>
    intro i hi hj ht listed inv hdep
    have h1 := List.all_eq_true.1 (List.all_eq_true.1 hB j (List.mem_range.2 hj)) i (List.mem_range.2 hi)
    rw [ht] at h1
    simp only [Bool.not_true, Bool.false_or] at h1
    split at h1
    · rename_i oj hoj
      obtain ⟨e, he, h2⟩ := Array.any_eq_true'.1 h1
      simp only [Bool.and_eq_true, Bool.or_eq_true] at h2
      obtain ⟨hb, hlt, h3⟩ := h2
      have hlt : e.on < j := by simpa [Nat.blt_eq] using hlt
      have hl := hdep oj hoj e he hb
      rcases h3 with h3 | h3
      · have := Nat.eq_of_beq_eq_true h3; subst this; exact hl
      · exact ih e.on hlt i hi (by omega) h3 listed inv (fun oj' hoj' e' he' hb' => inv.closed e.on oj' hoj' hl e' he' hb')
    · cases h1
def NoQ : Exit → Act → World → Prop := fun _ _ _ => False
def gOp (P : Program) (ops : Array Oper) (gs : Nat → Bool) (i : Nat) (K : Act → World → Prop) (a : Act) (w : World) : Prop :=
  match ops[i]? with
  | none => K a w
  | some o => if Region.wanted o (yielded ops a.tmps) then o.wp P a w (fun a' w' => (gs i = true → Grown w w') ∧ K a' w') NoQ else K (a.put o.dst undef) w
def wpAnyG (P : Program) (md : Region.Mode) (ops : Array Oper) (gs : Nat → Bool) (Q : Act → World → Prop) : Nat → Array Bool → Act → World → Prop
  | 0, listed, a, w => Region.ready md ops listed = [] ∧ Q a w
  | f + 1, listed, a, w => (Region.ready md ops listed = [] → Q a w) ∧ ∀ i ∈ Region.ready md ops listed, gOp P ops gs i (wpAnyG P md ops gs Q f (listed.setIfInBounds i true)) a w
theorem wp_weak {o : Oper} {a : Act} {w : World} {K K' : Act → World → Prop} {Q' : Exit → Act → World → Prop} (h : ∀ a w, K a w → K' a w) (hh : o.wp P a w K NoQ) : o.wp P a w K' Q' := by
  unfold Oper.wp at *
  generalize (execOp a.eval o).run P w = r at *
  cases r with
  | ok n w' =>
    cases n <;> simp only [Oper.upon] at hh ⊢ <;>
      first
        | exact h _ _ hh
        | exact Calls.mono hh (fun e w'' he => by
            cases e with
            | returned v => exact h _ _ he
            | panicked c => exact he.elim
            | outgrown => obtain ⟨_, _, h'⟩ := he; exact h'.elim)
        | exact Rows.mono hh (fun _ _ he => h _ _ he)
  | halt x w' => cases x <;> simp only [Oper.upon] at hh ⊢ <;> exact hh.elim
theorem gOp_mono {gs : Nat → Bool} {i : Nat} {a : Act} {w : World} {K K' : Act → World → Prop} (h : ∀ a w, K a w → K' a w) (hh : gOp P ops gs i K a w) : gOp P ops gs i K' a w := by
  unfold gOp at *
  split
  · exact h _ _ (by simpa [*] using hh)
  · rename_i o ho
    simp only [ho] at hh
    split
    · rename_i hw; simp only [hw, if_true] at hh; exact wp_weak (fun a w h' => ⟨h'.1, h _ _ h'.2⟩) hh
    · rename_i hw; simp only [hw] at hh; exact h _ _ hh
theorem wpAny_of_G {gs : Nat → Bool} {Q : Act → World → Prop} {Q' : Exit → Act → World → Prop} (hQ : ∀ a w, Q a w → Q' .normal a w) : ∀ (f : Nat) (listed : Array Bool) (a : Act) (w : World),
    wpAnyG P md ops gs Q f listed a w → wpAny P md ops Q' f listed a w
  | 0, _, _, _, h => ⟨h.1, hQ _ _ h.2⟩
  | f + 1, _, a, w, h => ⟨fun h0 => hQ _ _ (h.1 h0), fun i hi => by
      have h1 := h.2 i hi
      unfold gOp at h1
      unfold wpOp
      split
      · rename_i ho; simp only [ho] at h1; exact wpAny_of_G hQ f _ _ _ h1
      · rename_i o ho
        simp only [ho] at h1
        split
        · rename_i hw; simp only [hw, if_true] at h1
          exact .inl (wp_weak (fun a w h' => wpAny_of_G hQ f _ _ _ h'.2) h1)
        · rename_i hw; simp only [hw] at h1; exact wpAny_of_G hQ f _ _ _ h1⟩
theorem put_def (a : Act) (d : Option Tmp) (v : Value) (x : Deferred) : ({ (a.put d v) with defers := x :: (a.put d v).defers } : Act) = ({ a with defers := x :: a.defers } : Act).put d v := by
  cases d <;> rfl
theorem grown_trans {w w' w'' : World} (h : Grown w w') (h' : Grown w' w'') : Grown w w'' :=
  ⟨h'.os.trans h.os, h'.tape.trans h.tape, h'.output.trans h.output, Nat.le_trans h.size h'.size, fun b hb => (h'.block b (Nat.lt_of_lt_of_le hb h.size)).trans (h.block b hb)⟩
/-- a read: one value, in every world (any) or in every world that has grown out of this one -/
def YG (P : Program) (ops : Array Oper) (any : Bool) (o : Oper) (v : Value) (a : Act) (w : World) : Prop :=
  (Region.wanted o (yielded ops a.tmps) = true ∧ ∀ w', (any = true ∨ Grown w w') → (execOp a.eval o).run P w' = .ok (.value v) w') ∨ (Region.wanted o (yielded ops a.tmps) = false ∧ v = undef)
theorem YG.gOp {gs : Nat → Bool} {any : Bool} {i : Nat} {o : Oper} {v : Value} {a : Act} {w : World} (hi : ops[i]? = some o) (hy : YG P ops any o v a w) {K : Act → World → Prop} (h : K (a.put o.dst v) w) : gOp P ops gs i K a w := by
  unfold Go.Ev.gOp
  simp only [hi]
  rcases hy with ⟨hw, hv⟩ | ⟨hw, rfl⟩
  · simp only [hw, if_true]
    unfold Oper.wp
    rw [hv w (.inr (Grown.refl w))]
    exact ⟨fun _ => Grown.refl w, h⟩
  · simp only [hw, Bool.false_eq_true, if_false]; exact h
theorem YG.later {any : Bool} {oi oj : Oper} {v u : Value} {a : Act} {w w' : World} (hsi : ∀ cs b, oi.op ≠ .select cs b) (hap : oi.apart ops oj = true) (hg : any = true ∨ Grown w w') (hy : YG P ops any oi v a w) :
    YG P ops any oi v (a.put oj.dst u) w' := by
  obtain ⟨h1, h2, h3⟩ := Oper.apart_spec hap
  unfold YG at *
  rw [wanted_put oi a oj.dst u h3, execOp_put oi hsi a oj.dst u h3]
  rcases hy with ⟨hw, hv⟩ | hy
  · refine .inl ⟨hw, fun w'' h'' => hv w'' ?_⟩
    rcases h'' with h'' | h''
    · exact .inl h''
    · rcases hg with hg | hg
      · exact .inl hg
      · exact .inr (grown_trans hg h'')
  · exact .inr hy
/-- a read's value that is there already makes no difference to an operation that is apart from it; and it stays the same behind it -/
theorem gOp_put {gs : Nat → Bool} {any : Bool} {j : Nat} {oi oj : Oper} {v : Value} (hj : ops[j]? = some oj) (hap : oi.apart ops oj = true) (hsi : ∀ cs b, oi.op ≠ .select cs b) (hsj : ∀ cs b, oj.op ≠ .select cs b) {K : Act → World → Prop} {a : Act} {w : World}
    (hgs : any = true ∨ gs j = true) (hy : YG P ops any oi v a w) (h : gOp P ops gs j K (a.put oi.dst v) w) : gOp P ops gs j (fun a' w' => YG P ops any oi v a' w' ∧ K (a'.put oi.dst v) w') a w := by
  obtain ⟨h1, h2, h3⟩ := Oper.apart_spec hap
  unfold gOp at *
  simp only [hj] at *
  rw [wanted_put oj a oi.dst v h1] at h
  have lat : ∀ u w', (gs j = true → Grown w w') → YG P ops any oi v (a.put oj.dst u) w' := fun u w' hg => hy.later hsi hap (hgs.imp id hg)
  split
  · rename_i hw
    simp only [hw, if_true] at h
    unfold Oper.wp at *
    rw [execOp_put oj hsj a oi.dst v h1] at h
    generalize (execOp a.eval oj).run P w = r at *
    have pc : ∀ (a : Act) u, (a.put oi.dst v).put oj.dst u = (a.put oj.dst u).put oi.dst v := fun a u => Act.put_comm a v u h2
    cases r with
    | ok n w' =>
      cases n with
      | value u => simp only [Oper.upon] at h ⊢; rw [pc] at h; exact ⟨h.1, lat u _ h.1, h.2⟩
      | skip => simp only [Oper.upon] at h ⊢; rw [pc] at h; exact ⟨h.1, lat _ _ h.1, h.2⟩
      | defer d =>
        simp only [Oper.upon] at h ⊢; rw [put_def, pc] at h
        refine ⟨h.1, ?_, h.2⟩
        have hy' : YG P ops any oi v ({ a with defers := d :: a.defers } : Act) w := hy
        exact hy'.later hsi hap (hgs.imp id h.1)
      | enter f args =>
        simp only [Oper.upon] at h ⊢
        refine Calls.mono h (fun e w'' he => ?_)
        cases e with
        | returned u => simp only [pc] at he; exact ⟨he.1, lat u _ he.1, he.2⟩
        | panicked c => exact he.elim
        | outgrown => obtain ⟨_, _, h'⟩ := he; exact h'.elim
      | row row args =>
        simp only [Oper.upon] at h ⊢
        exact Rows.mono h (fun u w'' he => by rw [pc] at he; exact ⟨he.1, lat u _ he.1, he.2⟩)
      | _ => exact h.elim
    | halt x w' => cases x <;> exact h.elim
  · rename_i hw
    simp only [hw] at h
    refine ⟨lat _ _ (fun _ => Grown.refl w), ?_⟩
    rw [← Act.put_comm a v undef h2]; exact h
/-- a read that may come up now may go first -/
theorem wpAnyG_first {gs : Nat → Bool} {m : List Nat} {Q : Act → World → Prop} {any : Bool} {i : Nat} {oi : Oper} {v : Value} (hB : waitB md ops m = true) (hi : ops[i]? = some oi) (hsel : ∀ (j : Nat) (o : Oper) cs b, ops[j]? = some o → o.op ≠ .select cs b) :
    ∀ (f : Nat) (listed : Array Bool) (a : Act) (w : World), HeadInv md ops ops.size listed →
      (∀ j oj, ops[j]? = some oj → j ≠ i → listed.getD j true = false → Nat.testBit (m.getD j 0) i = false → oi.apart ops oj = true ∧ (any = true ∨ gs j = true)) →
      i ∈ Region.ready md ops listed → YG P ops any oi v a w →
      wpAnyG P md ops gs Q f (listed.setIfInBounds i true) (a.put oi.dst v) w → wpAnyG P md ops gs Q (f + 1) listed a w := by
  intro f
  induction f with
  | zero =>
    intro listed a w inv _ hr hy H
    refine ⟨fun h => (by rw [h] at hr; cases hr), fun j hj => ?_⟩
    by_cases hji : j = i
    · subst hji; exact hy.gOp hi H
    · have := ready_mono hj hji
      rw [H.1] at this
      cases this
  | succ f ih =>
    intro listed a w inv hfree hr hy H
    refine ⟨fun h => (by rw [h] at hr; cases hr), fun j hj => ?_⟩
    by_cases hji : j = i
    · subst hji; exact hy.gOp hi H
    · have h1 := H.2 j (ready_mono hj hji)
      obtain ⟨hjun, oj, hoj, hall⟩ := mem_ready.1 hj
      have hjlt : j < ops.size := (Array.getElem?_eq_some_iff.1 hoj).1
      have hilt : i < ops.size := (Array.getElem?_eq_some_iff.1 hi).1
      have hnot : Nat.testBit (m.getD j 0) i = false := by
        cases ht : Nat.testBit (m.getD j 0) i with
        | false => rfl
        | true =>
          have := wait_spec hB j i hilt hjlt ht listed inv (fun oj' hoj' e he hb => by
            rw [hoj] at hoj'; injection hoj' with hoj'; subst hoj'; exact hall e he hb)
          have h0 := (mem_ready.1 hr).1
          rw [getD_both h0] at this; cases this
      obtain ⟨hap, hgs⟩ := hfree j oj hoj hji hjun hnot
      have h2 := gOp_put hoj hap (fun cs b => hsel i oi cs b hi) (fun cs b => hsel j oj cs b hoj) hgs hy h1
      refine gOp_mono (fun a' w' h3 => ih (listed.setIfInBounds j true) a' w' (inv.set hj hjlt) (fun k ok hk hki hun hno => ?_) (ready_mono hr (Ne.symm hji)) h3.1 ?_) h2
      · refine hfree k ok hk hki ?_ hno
        by_cases hjk : j = k
        · subst hjk; exact hjun
        · rw [getD_set_ne true hjk] at hun; exact hun
      · rw [Array.setIfInBounds_comm _ _ hji]
        exact h3.2
/-- an operation that all the others wait for comes up alone -/
theorem wpAnyG_only {gs : Nat → Bool} {m : List Nat} {Q : Act → World → Prop} {i : Nat} (hB : waitB md ops m = true) {f : Nat} {listed : Array Bool} {a : Act} {w : World} (inv : HeadInv md ops ops.size listed)
    (hall : ∀ j, j < ops.size → j ≠ i → listed.getD j true = false → Nat.testBit (m.getD j 0) i = true) (hr : i ∈ Region.ready md ops listed)
    (H : gOp P ops gs i (wpAnyG P md ops gs Q f (listed.setIfInBounds i true)) a w) : wpAnyG P md ops gs Q (f + 1) listed a w := by
  refine ⟨fun h => (by rw [h] at hr; cases hr), fun j hj => ?_⟩
  by_cases hji : j = i
  · subst hji; exact H
  · exfalso
    obtain ⟨hjun, oj, hoj, hdep⟩ := mem_ready.1 hj
    obtain ⟨hiun, oi, hoi, _⟩ := mem_ready.1 hr
    have hjlt : j < ops.size := (Array.getElem?_eq_some_iff.1 hoj).1
    have hilt : i < ops.size := (Array.getElem?_eq_some_iff.1 hoi).1
    have := wait_spec hB j i hilt hjlt (hall j hjlt hji hjun) listed inv (fun oj' hoj' e he hb => by
      rw [hoj] at hoj'; injection hoj' with hoj'; subst hoj'; exact hdep e he hb)
    rw [getD_both hiun] at this; cases this
end
/-! ### the plan of such a region -/
/-- 0: a move (one value in every world); 1: a read; 2: a new row; 3: any other -/
def clsOf (P : Program) (o : Oper) : Nat :=
  match o.op with
  | .move _ => 0
  | .assign _ => 0
  | .buildSlice .. => 2
  | .makeSlice .. => 3
  | .store .. => 3
  | .alloc .. => 3
  | .box .. => 3
  | .convert _ d _ => match P.underlying d with
    | some (.slice _) => 3
    | _ => 1
  | .call c => match c.callee with
    | .builtin .len => 1
    | .builtin .cap => 1
    | _ => 3
  | _ => 1
def freeG (P : Program) (ops : Array Oper) (m : List Nat) (listed : Array Bool) (k : Nat) : Bool :=
  match ops[k]? with
  | some ok => (List.range ops.size).all fun j => Nat.beq j k || listed.getD j true || Nat.testBit (m.getD j 0) k || (Nat.ble (clsOf P ok) 1 && (match ops[j]? with
    | some oj => ok.apart ops oj && (Nat.beq (clsOf P ok) 0 || Nat.ble (clsOf P oj) 2)
    | none => false))
  | none => false
def planFrom (P : Program) (ops : Array Oper) (m : List Nat) : Nat → Nat → Array Bool → Bool
  | 0, _, listed => (Region.ready .any ops listed).isEmpty
  | f + 1, k, listed => (Region.ready .any ops listed).contains k && freeG P ops m listed k && planFrom P ops m f (k + 1) (listed.setIfInBounds k true)
def planB (P : Program) (ops : Array Oper) (m : List Nat) : Bool :=
  Region.noSelect ops && waitB .any ops m && planFrom P ops m ops.size 0 (Array.replicate ops.size false)
def gsOf (P : Program) (ops : Array Oper) (j : Nat) : Bool := match ops[j]? with
  | some oj => Nat.ble (clsOf P oj) 2
  | none => false
section
variable {P : Program} {ops : Array Oper}
/-- the walk of the lexical order -/
def wpLexG (P : Program) (ops : Array Oper) (Q : Act → World → Prop) : List Oper → Act → World → Prop
  | [], a, w => Q a w
  | o :: l, a, w => if Region.wanted o (yielded ops a.tmps) then
      (if clsOf P o ≤ 1 then ∃ v, (∀ w', (clsOf P o = 0 ∨ Grown w w') → (execOp a.eval o).run P w' = .ok (.value v) w') ∧ wpLexG P ops Q l (a.put o.dst v) w
      else o.wp P a w (fun a' w' => (clsOf P o = 2 → Grown w w') ∧ wpLexG P ops Q l a' w') NoQ)
    else wpLexG P ops Q l (a.put o.dst undef) w
theorem wpAnyG_lex {m : List Nat} {Q : Act → World → Prop} (hs : Region.noSelect ops = true) (hB : waitB .any ops m = true) : ∀ (l : List Oper) (k : Nat) (listed : Array Bool) (a : Act) (w : World), (∀ j, l[j]? = ops[k + j]?) →
    HeadInv .any ops ops.size listed → planFrom P ops m l.length k listed = true → wpLexG P ops Q l a w → wpAnyG P .any ops (gsOf P ops) Q l.length listed a w
  | [], _, _, _, _, _, _, hp, h => ⟨by simpa [planFrom] using hp, h⟩
  | o :: l, k, listed, a, w, hl, inv, hp, h => by
    have h0 : ops[k]? = some o := by simpa using (hl 0).symm
    have hklt : k < ops.size := (Array.getElem?_eq_some_iff.1 h0).1
    simp only [List.length_cons, planFrom, Bool.and_eq_true] at hp
    obtain ⟨⟨hr, hf⟩, hp'⟩ := hp
    have hr : k ∈ Region.ready .any ops listed := by simpa using hr
    have inv' := inv.set hr hklt
    have hl' : ∀ j, l[j]? = ops[k + 1 + j]? := fun j => by have := hl (j + 1); simpa [Nat.add_assoc, Nat.add_comm 1 j] using this
    unfold freeG at hf
    rw [h0] at hf
    simp only at hf
    have hf := fun j (hj : j < ops.size) => List.all_eq_true.1 hf j (List.mem_range.2 hj)
    have ih : ∀ (a' : Act) (w' : World), wpLexG P ops Q l a' w' → wpAnyG P .any ops (gsOf P ops) Q l.length (listed.setIfInBounds k true) a' w' := fun a' w' h' => wpAnyG_lex hs hB l (k + 1) (listed.setIfInBounds k true) a' w' hl' inv' hp' h'
    unfold wpLexG at h
    by_cases hc : clsOf P o ≤ 1
    · -- a read
      have key : ∃ v, YG P ops (Nat.beq (clsOf P o) 0) o v a w ∧ wpLexG P ops Q l (a.put o.dst v) w := by
        by_cases hw : Region.wanted o (yielded ops a.tmps) = true
        · rw [if_pos hw, if_pos hc] at h
          obtain ⟨v, h1, h2⟩ := h
          refine ⟨v, .inl ⟨hw, fun w' hw' => h1 w' ?_⟩, h2⟩
          exact hw'.imp (fun h => Nat.eq_of_beq_eq_true h) id
        · rw [if_neg hw] at h
          exact ⟨undef, .inr ⟨by simpa using hw, rfl⟩, h⟩
      obtain ⟨v, hy, hK⟩ := key
      refine wpAnyG_first hB h0 (Region.noSelect_spec hs) l.length listed a w inv (fun j oj hj hji hun hno => ?_) hr hy (ih _ _ hK)
      have hjlt : j < ops.size := (Array.getElem?_eq_some_iff.1 hj).1
      have := hf j hjlt
      rw [hun, hno, hj] at this
      simp only [Bool.or_eq_true, Bool.and_eq_true, Bool.or_false, Bool.false_eq_true, or_false] at this
      rcases this with this | ⟨_, h1, h2⟩
      · exact absurd (Nat.eq_of_beq_eq_true this) hji
      · refine ⟨h1, h2.imp id (fun h => ?_)⟩
        unfold gsOf; rw [hj]; exact h
    · refine wpAnyG_only hB inv (fun j hj hji hun => ?_) hr ?_
      · have := hf j hj
        have hc' : Nat.ble (clsOf P o) 1 = false := by
          cases hb : Nat.ble (clsOf P o) 1 with
          | false => rfl
          | true => exact absurd (Nat.le_of_ble_eq_true hb) hc
        rw [hun, hc'] at this
        simp only [Bool.or_eq_true, Bool.false_and, Bool.or_false, Bool.false_eq_true, or_false] at this
        rcases this with this | this
        · exact absurd (Nat.eq_of_beq_eq_true this) hji
        · exact this
      · unfold gOp
        rw [h0]
        simp only
        by_cases hw : Region.wanted o (yielded ops a.tmps) = true
        · rw [if_pos hw, if_neg hc] at h
          rw [if_pos hw]
          refine wp_weak (fun a' w' h' => ⟨fun hg => h'.1 ?_, ih _ _ h'.2⟩) h
          unfold gsOf at hg; rw [h0] at hg
          have := Nat.le_of_ble_eq_true hg
          omega
        · rw [if_neg hw] at h
          rw [if_neg hw]
          exact ih _ _ h
theorem wp_region_lexG {id : Nat} {m : List Nat} {Q : Exit → Act → World → Prop} {a : Act} {w : World} (hm : P.follows .mixedOrders = true) (hB : planB P ops m = true)
    (h : wpLexG P ops (fun a w => Q .normal a w) ops.toList a { w with drawn := w.drawn + 1 }) : (Code.region id ops true).wp P Q a w := by
  simp only [planB, Bool.and_eq_true] at hB
  obtain ⟨⟨h1, h2⟩, h3⟩ := hB
  refine wp_region_any hm (wpAny_of_G (gs := gsOf P ops) (Q := fun a w => Q .normal a w) (fun _ _ h => h) _ _ _ _ ?_)
  have := wpAnyG_lex (P := P) (m := m) h1 h2 ops.toList 0 (Array.replicate ops.size false) a _ (by simp)
    ⟨by simp, fun j oj _ hl => (by rw [getD_replicate_false] at hl; cases hl), fun t ht ht' => absurd ht' (by omega)⟩ (by simpa using h3) h
  simpa using this
end
/-! ### the evaluator of such a region -/
def GFin (P : Program) (o : Oper) (st : St) (x : AV) : Prop := ∀ G ι ok a w, SimI G ι ok st a w → ∃ v, Rep w ok G.B ι x v ∧ ∀ w', Grown w w' → (execOp a.eval o).run P w' = .ok (.value v) w'
theorem gfin_of_fin {P : Program} {o : Oper} {st : St} {x : AV} (h : RunsFin P o st x) (hf : isFun x = true) : GFin P o st x := by
  intro G ι ok a w hs
  obtain ⟨v, h1, h2⟩ := h G ι ok a w hs
  refine ⟨v, h2, fun w' hg => ?_⟩
  obtain ⟨v', h3, h4⟩ := h G ι ok a w' (hs.grow hg)
  rw [h3, rep_fun hf h2 h4]
theorem gfin_any {P : Program} {o : Oper} {st : St} {x : AV} (h : RunsAny P o st x) : GFin P o st x := by
  intro G ι ok a w hs
  obtain ⟨v, h1, h2⟩ := h G ι ok a w hs
  exact ⟨v, h2, fun w' _ => h1 w'⟩
theorem gfin_load {P : Program} {o : Oper} {t : TypeId} {x : Operand} {st : St} (ho : o.op = .load t x) {p y : AV} (hp : opnd st x = some p) (hy : loadAV P st t p = some y) : GFin P o st y := by
  intro G ι ok a w hs
  obtain ⟨cv, h1, h2⟩ := loadAV_grown (P := P) hs (hs.opnd hp) hy
  refine ⟨cv, h2, fun w' hg => ?_⟩
  unfold execOp; rw [ho]; exact exec_v (h1 w' hg)
def evG {R : Type} (P : Program) (o : Oper) (st : St) (K : X → St → Option R) : Option R :=
  match o.op with
  | .load t x => evLoad P o t x st K
  | .slice t x lo hi none => evSlice P o t x lo hi st K
  | .indexAddr t x i => evIndexAddr P o t x i st K
  | .build t ps => evBuild P o t ps st K
  | _ => evQRest P o st K
theorem evG_ok {R : Type} {P : Program} {o : Oper} {st : St} {K : X → St → Option R} {r : R} (h : evG P o st K = some r) : ∃ x, GFin P o st x ∧ fin o st K x = some r := by
  unfold evG at h
  split at h
  · rename_i t x ho
    obtain ⟨p, y, h1, h2, h3⟩ := evLoad_get h
    exact ⟨y, gfin_load ho h1 h2, h3⟩
  · rename_i t x lo hi ho
    obtain ⟨y, h1, h2⟩ := evSlice_any ho h
    exact ⟨y, gfin_any h1, h2⟩
  · rename_i t x i ho
    obtain ⟨y, h1, h2⟩ := evIndexAddr_any ho h
    exact ⟨y, gfin_any h1, h2⟩
  · rename_i t ps ho
    obtain ⟨y, h1, h2⟩ := evBuild_any ho h
    exact ⟨y, gfin_any h1, h2⟩
  · unfold evQRest at h
    split at h
    · rename_i d hd
      obtain ⟨x, h1, h2⟩ := evScalar_fin h
      obtain ⟨h3, h4⟩ := fin_some h2
      rw [hd] at h4
      have hl : look (st.put (some d) x).ts d = some x := by simp [St.put, look_cons]
      rw [hl] at h4
      simp only at h4
      obtain ⟨h5, h6⟩ := cond_none h4
      refine ⟨x, gfin_of_fin h1 h5, ?_⟩
      unfold fin
      rw [h3, hd]; exact h6
    · cases h
def evW {R : Type} (P : Program) (E : EvO R) (o : Oper) (st : St) (K : X → St → Option R) : Option R :=
  match clsOf P o with
  | 0 => match o.op with
    | .move x => evMove o x st K
    | .assign x => evMove o x st K
    | _ => none
  | 1 => evG P o st K
  | 2 => match o.op with
    | .buildSlice t len ps => evBuildSlice P o t len ps st K
    | _ => none
  | _ + 3 => E o st K
def WStep (P : Program) (o : Oper) (st st₁ : St) : Prop := ∀ G ι ok a w, SimI G ι ok st a w → ∀ (K : Act → World → Prop), (∀ a' w', Sim G st₁ a' w' → K a' w') →
  (if clsOf P o ≤ 1 then ∃ v, (∀ w', (clsOf P o = 0 ∨ Grown w w') → (execOp a.eval o).run P w' = .ok (.value v) w') ∧ K (a.put o.dst v) w
   else o.wp P a w (fun a' w' => (clsOf P o = 2 → Grown w w') ∧ K a' w') NoQ)
theorem evW_ok {R : Type} {P : Program} {E : EvO R} (hE : EOK P E) {o : Oper} {st : St} {K : X → St → Option R} {r : R} (h : evW P E o st K = some r) : ∃ x st₁, (x = .normal → WStep P o st st₁) ∧ K x st₁ = some r := by
  unfold evW at h
  split at h
  · rename_i hc
    have key : ∀ x, (o.op = .move x ∨ o.op = .assign x) → evMove o x st K = some r → ∃ x st₁, (x = .normal → WStep P o st st₁) ∧ K x st₁ = some r := by
      intro x ho h
      obtain ⟨y, h1, h2⟩ := evMove_get h
      obtain ⟨h3, h4⟩ := fin_some h2
      refine ⟨.normal, _, fun _ G ι ok a w hs Kf hk => ?_, h4⟩
      rw [if_pos (by omega)]
      refine ⟨a.eval x, fun w' _ => ?_, hk _ _ ⟨ι, ok, hs.put h3 (hs.opndR h1)⟩⟩
      unfold execOp
      rcases ho with ho | ho <;> rw [ho] <;> rfl
    split at h
    · exact key _ (.inl ‹_›) h
    · exact key _ (.inr ‹_›) h
    · cases h
  · rename_i hc
    obtain ⟨x, h1, h2⟩ := evG_ok h
    obtain ⟨h3, h4⟩ := fin_some h2
    refine ⟨.normal, _, fun _ G ι ok a w hs Kf hk => ?_, h4⟩
    rw [if_pos (by omega)]
    obtain ⟨v, g1, g2⟩ := h1 G ι ok a w hs
    exact ⟨v, fun w' hw => by
      rcases hw with hw | hw
      · omega
      · exact g2 w' hw, hk _ _ ⟨ι, ok, hs.put h3 g1⟩⟩
  · rename_i hc
    split at h
    · rename_i t len ps ho
      obtain ⟨x, st₁, h1, h2⟩ := evBuildSlice_new ho h
      obtain ⟨h3, h4⟩ := fin_some h2
      refine ⟨.normal, _, fun _ G ι ok a w hs Kf hk => ?_, h4⟩
      rw [if_neg (by omega)]
      obtain ⟨v, w', ι', g1, g2, g3, g4⟩ := h1 G ι ok a w hs
      unfold Oper.wp
      rw [g1]
      exact ⟨fun _ => g4, hk _ _ ⟨ι', ok, g2.put h3 g3⟩⟩
    · cases h
  · rename_i n hc
    obtain ⟨x, st', h1, h2⟩ := hE _ _ _ _ h
    refine ⟨x, st', fun hx G ι ok a w hs Kf hk => ?_, h2⟩
    subst hx
    rw [if_neg (by omega)]
    exact h1 G a w _ NoQ ⟨ι, ok, hs⟩ (fun ex a' w' hx => by
      obtain ⟨rfl, hx⟩ := hx
      exact ⟨fun hc2 => absurd hc2 (by omega), hk _ _ hx⟩)
def evOpsG {R : Type} (P : Program) (E : EvO R) (all : Array Oper) : List Oper → St → (St → Option R) → Option R
  | [], st, K => K st
  | o :: r, st, K =>
    match o.guard with
    | none => evW P E o st fun x st => match x with
      | .normal => evOpsG P E all r st K
      | _ => none
    | some (j, want) =>
      match (all[j]?).bind (·.dst) with
      | some d => match look st.ts d with
        | some (.v (.bool b)) =>
          bif b then (bif want then (evW P E o (st.know d true) fun x st => match x with
              | .normal => evOpsG P E all r st K
              | _ => none) else (bif dstOk st.n o.dst then evOpsG P E all r ((st.know d true).put o.dst (.v undef)) K else none))
          else (bif want then (bif dstOk st.n o.dst then evOpsG P E all r ((st.know d false).put o.dst (.v undef)) K else none)
            else (evW P E o (st.know d false) fun x st => match x with
              | .normal => evOpsG P E all r st K
              | _ => none))
        | some (.v (.tuple _)) => bif dstOk st.n o.dst then evOpsG P E all r (st.put o.dst (.v undef)) K else none
        | _ => none
      | none => none
def GRuns (P : Program) (all : Array Oper) (l : List Oper) (st st' : St) : Prop :=
  ∀ G ι ok a w, SimI G ι ok st a w → ∀ (Qf : Act → World → Prop), (∀ a' w', Sim G st' a' w' → Qf a' w') → wpLexG P all Qf l a w
theorem evOpsG_ok {R : Type} {P : Program} {E : EvO R} (hEO : EOK P E) {all : Array Oper} : ∀ (l : List Oper) (st : St) (K : St → Option R) (r : R), evOpsG P E all l st K = some r → ∃ st', GRuns P all l st st' ∧ K st' = some r := by
  intro l
  induction l with
  | nil => intro st K r h; exact ⟨st, fun G ι ok a w hs Qf hq => hq a w ⟨ι, ok, hs⟩, h⟩
  | cons o l ih =>
    intro st K r h
    have main : ∀ (st : St), (evW P E o st fun x st => match x with
            | .normal => evOpsG P E all l st K
            | _ => none) = some r → (∀ G ι ok a w, SimI G ι ok st a w → Region.wanted o (yielded all a.tmps) = true) → ∃ st', GRuns P all (o :: l) st st' ∧ K st' = some r := by
      intro st hE hw
      obtain ⟨x, st₁, h1, h2⟩ := evW_ok hEO hE
      cases x with
      | normal =>
        obtain ⟨st', h5, h6⟩ := ih _ _ _ h2
        refine ⟨st', fun G ι ok a w hs Qf hq => ?_, h6⟩
        unfold wpLexG
        rw [if_pos (hw G ι ok a w hs)]
        exact h1 rfl G ι ok a w hs _ (fun a' w' hs' => by obtain ⟨ι', ok', hs'⟩ := hs'; exact h5 G ι' ok' a' w' hs' Qf hq)
      | _ => cases h2
    have over : ∀ (st : St), (bif dstOk st.n o.dst then evOpsG P E all l (st.put o.dst (.v undef)) K else none) = some r → (∀ G ι ok a w, SimI G ι ok st a w → Region.wanted o (yielded all a.tmps) = false) →
        ∃ st', GRuns P all (o :: l) st st' ∧ K st' = some r := by
      intro st h hw
      cases hdk : dstOk st.n o.dst <;> rw [hdk] at h <;> simp only [cond_true, cond_false] at h
      · cases h
      · obtain ⟨st', h5, h6⟩ := ih _ _ _ h
        refine ⟨st', fun G ι ok a w hs Qf hq => ?_, h6⟩
        unfold wpLexG
        rw [if_neg (by rw [hw G ι ok a w hs]; simp)]
        exact h5 G ι ok _ w (hs.put hdk (.v undef)) Qf hq
    unfold evOpsG at h
    split at h
    · rename_i hg
      exact main _ h (fun G ι ok a w hs => by unfold Region.wanted; rw [hg])
    · rename_i j want hg
      split at h
      · rename_i d hd
        have hy : ∀ {x : Value} {st : St}, look st.ts d = some (.v x) → ∀ G ι ok a w, SimI G ι ok st a w → yielded all a.tmps j = (match x with | .bool b => some b | _ => none) := by
          intro x st hb G ι ok a w hs
          obtain ⟨h1, h2⟩ := hs.slots _ _ hb
          have h2 := rep_v_inv h2
          unfold yielded
          rw [hd]
          have hlt : d < a.tmps.size := by rw [hs.size]; exact h1
          rw [Array.getD_eq_getD_getElem?, Array.getElem?_eq_getElem hlt] at h2
          simp only [Option.bind_some, Array.getElem?_eq_getElem hlt]
          simp only [Option.getD_some] at h2
          rw [h2]
          cases x <;> rfl
        split at h
        · rename_i b hb
          have hknow : look (st.know d b).ts d = some (.v (.bool b)) := by simp [St.know, look_cons]
          have up : ∀ G ι ok a w, SimI G ι ok st a w → SimI G ι ok (st.know d b) a w := by
            intro G ι ok a w hs
            refine { hs with slots := ?_ }
            intro t x hx
            simp only [St.know, look_cons] at hx
            split at hx
            · rename_i e; subst e; injection hx with hx; subst hx; exact hs.slots _ _ hb
            · exact hs.slots _ _ hx
          have hw : ∀ G ι ok a w, SimI G ι ok (st.know d b) a w → Region.wanted o (yielded all a.tmps) = (some b == some want) := by
            intro G ι ok a w hs
            unfold Region.wanted; rw [hg]
            show (yielded all a.tmps j == some want) = _
            rw [hy hknow G ι ok a w hs]
          have wrap : (∃ st', GRuns P all (o :: l) (st.know d b) st' ∧ K st' = some r) → ∃ st', GRuns P all (o :: l) st st' ∧ K st' = some r := by
            rintro ⟨st', h1, h2⟩
            exact ⟨st', fun G ι ok a w hs Qf hq => h1 G ι ok a w (up G ι ok a w hs) Qf hq, h2⟩
          refine wrap ?_
          cases b <;> cases want <;> simp only [cond_true, cond_false] at h
          · exact main _ h (fun G ι ok a w hs => by rw [hw G ι ok a w hs]; rfl)
          · exact over _ h (fun G ι ok a w hs => by rw [hw G ι ok a w hs]; rfl)
          · exact over _ h (fun G ι ok a w hs => by rw [hw G ι ok a w hs]; rfl)
          · exact main _ h (fun G ι ok a w hs => by rw [hw G ι ok a w hs]; rfl)
        · rename_i vs hb
          refine over _ h (fun G ι ok a w hs => ?_)
          unfold Region.wanted; rw [hg]
          show (yielded all a.tmps j == some want) = _
          rw [hy hb G ι ok a w hs]; rfl
        · cases h
      · cases h
/-- reads in any order, changes in theirs -/
def drawPlan {R : Type} (P : Program) (E : EvO R) (m : List Nat) (ops : Array Oper) : St → (X → St → Option R) → Option R := fun st K =>
  bif P.follows .mixedOrders && planB P ops m then evOpsG P E ops ops.toList st (K .normal) else none
theorem drawPlan_ok {R : Type} {P : Program} {E : EvO R} (hE : EOK P E) {id : Nat} {m : List Nat} {ops : Array Oper} : LOK (R := R) P (drawPlan P E m ops) (.region id ops true) := by
  intro st K r h
  obtain ⟨hc, h⟩ := cond_none h
  rw [Bool.and_eq_true] at hc
  obtain ⟨st', h1, h2⟩ := evOpsG_ok hE _ _ _ _ h
  refine ⟨.normal, st', fun G a w Q hs hq => ?_, h2⟩
  obtain ⟨ι, ok, hs⟩ := hs
  have hg : Grown w { w with drawn := w.drawn + 1 } := ⟨rfl, rfl, rfl, Nat.le_refl _, fun _ _ => rfl⟩
  exact wp_region_lexG hc.1 hc.2 (h1 G ι ok a _ (hs.grow hg) _ (fun a' w' hs' => hq .normal a' w' ⟨rfl, hs'⟩))
theorem LH.drawP {R : Type} {P : Program} {E : EvO R} (hE : EOK P E) {body : Code} {L : EvL R} {q : Nat} {m : List Nat} (h : isDrawAt q body = true) (hL : LH P body L) : LH P body (consL q (drawPlan P E m (drawOps q body)) L) := by
  unfold isDrawAt at h
  split at h
  · rename_i id ops hf
    have e : drawOps q body = ops := by unfold drawOps; rw [hf]
    rw [e]
    exact LH.cons hf (drawPlan_ok hE) hL
  · cases h
def masksOf (ops : Array Oper) : List Nat := ops.toList.foldl (fun acc o => acc ++ [o.after.toList.foldl (fun s e => bif Region.binds .any e then Nat.lor s (Nat.lor (2 ^ e.on) (acc.getD e.on 0)) else s) 0]) []
def drawMix {R : Type} (P : Program) (E : EvO R) (n : Nat) (ops : Array Oper) : St → (X → St → Option R) → Option R := fun st K =>
  bif Region.lexTailB .any ops n then drawTail P E n ops st K else drawPlan P E (masksOf ops) ops st K
theorem drawMix_ok {R : Type} {P : Program} {E : EvO R} (hE : EOK P E) {id n : Nat} {ops : Array Oper} : LOK (R := R) P (drawMix P E n ops) (.region id ops true) := by
  intro st K r h
  unfold drawMix at h
  cases hb : Region.lexTailB .any ops n <;> rw [hb] at h <;> simp only [cond_true, cond_false] at h
  · exact drawPlan_ok hE st K r h
  · exact drawTail_ok hE st K r h
theorem LH.drawM {R : Type} {P : Program} {E : EvO R} (hE : EOK P E) {body : Code} {L : EvL R} {q n : Nat} (h : isDrawAt q body = true) (hL : LH P body L) : LH P body (consL q (drawMix P E n (drawOps q body)) L) := by
  unfold isDrawAt at h
  split at h
  · rename_i id ops hf
    have e : drawOps q body = ops := by unfold drawOps; rw [hf]
    rw [e]
    exact LH.cons hf (drawMix_ok hE) hL
  · cases h
end Go.Ev

namespace Go.Ev
set_option linter.unusedSimpArgs false
set_option linter.unusedVariables false
/-! ### deferred calls of a closure that recovers at once -/
def isRec (c : Call) : Bool := c.args.isEmpty && (match c.callee with | .builtin .recover => true | _ => false)
/-- 'x := recover()': where the call puts it, and the variable -/
def recOps : List Oper → Option (Nat × Nat)
  | [o1, o2] => match o1.op, o1.dst, o1.guard, o2.op, o2.dst, o2.guard with
    | .call c, some d, none, .assign (.tmp d'), some d2, none => bif isRec c && Nat.beq d d' then some (d, d2) else none
    | _, _, _, _, _, _ => none
  | _ => none
def RecAs (u : FrameMode) (v : Value) : Prop := (u = .returning ∧ v = .nilIface) ∨ u = .panicking [{ v := v, recovered := false }]
def recAfter : FrameMode → FrameMode
  | .panicking [{ v, .. }] => .panicking [{ v := v, recovered := true }]
  | u => u
theorem settle_rec {u : FrameMode} {v : Value} (h : RecAs u v) : settle (recAfter u) = .returning := by
  rcases h with ⟨rfl, rfl⟩ | rfl <;> rfl
def DefOK (P : Program) (f : FuncId) (na n d d2 : Nat) (tin : Tmpl) (outs : Outs) (fn : tin.T → Option (ESum outs)) : Prop :=
  ∀ x y, fn x = some y → ∀ G cargs w v u, G.w0 = w → cargs.size = na → Sim G (tin.enc n x) ⟨((cargs ++ Array.replicate (n - na) undef).setIfInBounds d v).setIfInBounds d2 v, []⟩ w → RecAs u v →
    CallsD P f cargs u w fun e u' w' => u' = recAfter u ∧ EndSim G outs y e w'
/-- the body behind it -/
def restOf : Code → Code
  | .seq _ b => b
  | c => c
def headOps : Code → Option (List Oper)
  | .seq (.region _ ops draw) _ => bif draw then none else some ops.toList
  | _ => none
theorem run_recover {P : Program} {o : Oper} {c : Call} {a : Act} {w : World} (ho : o.op = .call c) (hc : isRec c = true) : (execOp a.eval o).run P w = .ok .recover w := by
  obtain ⟨callee, args, ats⟩ := c
  unfold isRec at hc
  rw [Bool.and_eq_true] at hc
  obtain ⟨h1, h2⟩ := hc
  split at h2
  · rename_i hcal
    simp only at hcal; subst hcal
    rw [exec_builtin ho]; rfl
  · cases h2
theorem deferFn_ok {P : Program} {f : FuncId} {fnc : Func} {c : Code} {na n d d2 : Nat} {tin : Tmpl} {outs : Outs} {fn : tin.T → Option (ESum outs)} {E : EvO (ESum outs)} {L : EvL (ESum outs)} {p : Nat} {ops : List Oper}
    (hf : P.funcs[f]? = some fnc) (hb : fnc.body = some c) (hn : fnc.ntmps = n) (hna : Nat.ble na n = true) (hops : headOps c = some ops) (hrec : recOps ops = some (d, d2)) (hd : Nat.blt d n = true)
    (hE : EOK P E) (hL : LGood P L p (restOf c)) (h : ∀ x, evCode E L p (restOf c) (tin.enc n x) (decFn P fnc.results.toList outs) = fn x) : DefOK P f na n d d2 tin outs fn := by
  intro x y hy G cargs w v u hw hsz hs hu
  rw [← h x] at hy
  obtain ⟨ex, st', hr, hk⟩ := evCode_ok hE (restOf c) p _ _ _ hL hy
  refine callsD_of_wpS hf hb (fun c₀ cs hc => ?_)
  -- the body's form
  unfold headOps at hops
  split at hops
  · rename_i id aops draw rest
    cases draw with
    | true => cases hops
    | false =>
      have hops : aops.toList = ops := by injection hops
      subst hops
      refine wpS_seq (wpS_region ?_)
      unfold recOps at hrec
      split at hrec
      · rename_i o1 o2 hl
        split at hrec
        · rename_i c' d₁ d' d₂ q1 q2 q3 q4 q5 q6
          obtain ⟨hc2, hrec2⟩ := cond_none hrec
          clear hrec
          rw [Bool.and_eq_true] at hc2
          have e := beq_eq hc2.2; subst e
          injection hrec2 with hrec2; injection hrec2 with e1 e2; subst e1; subst e2
          have ha : aops = #[o1, o2] := by apply Array.ext'; simpa using hl
          subst ha
          have w1 : Region.wanted o1 (yielded #[o1, o2] (cargs ++ Array.replicate (fnc.ntmps - cargs.size) undef)) = true := by unfold Region.wanted; rw [q3]
          have hd' : d₁ < n := by simpa [Nat.blt_eq] using hd
          have hle : na ≤ n := Nat.le_of_ble_eq_true hna
          -- behind both
          have main : ∀ cs' : List Frame, (∃ u', cs' = { c₀ with mode := u' } :: cs ∧ u' = recAfter u) →
              wpOpsS P #[o1, o2] (Exit.thenS (rest.wpS P (bodyPostS P fnc c₀ cs fun e u' w' => u' = recAfter u ∧ EndSim G outs y e w')) (bodyPostS P fnc c₀ cs fun e u' w' => u' = recAfter u ∧ EndSim G outs y e w'))
                [1] (({ tmps := cargs ++ Array.replicate (fnc.ntmps - cargs.size) undef, defers := [] } : Act).put o1.dst v) cs' w := by
            rintro cs' ⟨u', rfl, hu'⟩
            unfold wpOpsS
            simp only [List.getElem?_toArray, List.getElem?_cons_succ, List.getElem?_cons_zero]
            have w2 : ∀ t, Region.wanted o2 (yielded #[o1, o2] t) = true := fun t => by unfold Region.wanted; rw [q6]
            rw [if_pos (w2 _)]
            have hx2 : ∀ a : Act, (execOp a.eval o2).run P w = .ok (.value (a.eval (.tmp d₁))) w := by
              intro a; unfold execOp; rw [q4]; rfl
            rw [hx2]
            unfold wpOpsS
            simp only [Oper.upon]
            have hev : (({ tmps := cargs ++ Array.replicate (fnc.ntmps - cargs.size) undef, defers := [] } : Act).put o1.dst v).eval (.tmp d₁) = v := by
              rw [q2]
              show ((cargs ++ Array.replicate (fnc.ntmps - cargs.size) undef).setIfInBounds d₁ v).getD d₁ undef = v
              have : d₁ < (cargs ++ Array.replicate (fnc.ntmps - cargs.size) undef).size := by rw [Array.size_append, Array.size_replicate, hn, hsz]; exact Nat.lt_of_lt_of_le hd' (by have := hle; omega)
              simp only [Array.getD_eq_getD_getElem?]
              rw [Array.getElem?_setIfInBounds_self_of_lt this]; rfl
            rw [hev]
            show rest.wpS P _ _ _ _
            refine wpS_of_wp ?_
            have hs2 : Sim G (tin.enc n x) (((({ tmps := cargs ++ Array.replicate (fnc.ntmps - cargs.size) undef, defers := [] } : Act).put o1.dst v).put o2.dst v)) w := by
              rw [q2, q5, hn, hsz]; exact hs
            refine hr G _ w _ hs2 (fun e' a' w' hx => ?_)
            obtain ⟨hdf, hk⟩ := cond_none hk
            have hdf : st'.df = [] := List.isEmpty_iff.1 hdf
            have ret : ∀ (ι' ok'), SimI G ι' ok' st' a' w' → (match resAVs P st' fnc.results.toList with
                | some vs => decEnds outs .normal (st'.one (oneOr vs))
                | none => none) = some y → a'.defers = [] ∧ ∃ v, (results fnc a'.tmps).run P w' = .ok v w' ∧ EndSim G outs y (.returned v) w' := by
              intro ι' ok' hs' hk
              have hd : a'.defers = [] := List.length_eq_zero_iff.1 (by rw [hs'.dfn, hdf]; rfl)
              refine ⟨hd, ?_⟩
              split at hk
              · rename_i vs hvs
                obtain ⟨cv, h1, h2⟩ := results_ok (P := P) hs' hvs
                refine ⟨cv, h1, decEnds_sim hk rfl rfl ?_⟩
                have := hs'.one h2
                rw [hd] at this
                exact ⟨_, _, this⟩
              · cases hk
            cases ex with
            | normal =>
              obtain ⟨rfl, ι', ok', hs'⟩ := hx
              obtain ⟨g1, v', g2, g3⟩ := ret ι' ok' hs' hk
              exact ⟨g1, u', rfl, v', g2, hu', g3⟩
            | ret =>
              obtain ⟨rfl, ι', ok', hs'⟩ := hx
              obtain ⟨g1, v', g2, g3⟩ := ret ι' ok' hs' hk
              exact ⟨g1, u', rfl, v', g2, hu', g3⟩
            | pan v =>
              obtain ⟨ι', ok', cv, rfl, hv, hs'⟩ := hx
              have hd : a'.defers = [] := List.length_eq_zero_iff.1 (by rw [hs'.dfn, hdf]; rfl)
              refine ⟨hd, u', rfl, hu', decEnds_sim hk rfl rfl ?_⟩
              have := hs'.one hv
              rw [hd] at this
              exact ⟨_, _, this⟩
            | exit i => cases hk
            | goto l => cases hk
          show wpOpsS P #[o1, o2] _ (List.range 2) _ _ _
          rw [show List.range 2 = [0, 1] by decide]
          unfold wpOpsS
          simp only [List.getElem?_toArray, List.getElem?_cons_zero]
          rw [if_pos w1, run_recover q1 hc2.1]
          simp only
          rcases hu with ⟨rfl, rfl⟩ | rfl
          · have : recoverD (c₀ :: cs) = none := by unfold recoverD; simp only [hc]
            rw [this]
            refine main _ ⟨.returning, ?_, rfl⟩
            rw [← hc]
          · have : recoverD (c₀ :: cs) = some (v, { c₀ with mode := .panicking [{ v := v, recovered := true }] } :: cs) := by unfold recoverD; simp only [hc]
            rw [this]
            exact main _ ⟨_, rfl, rfl⟩
        · cases hrec
      · cases hrec
  · cases hops
end Go.Ev

namespace Go.Ev
set_option linter.unusedSimpArgs false
set_option linter.unusedVariables false
def CDRuns (P : Program) (f : FuncId) (caps : List AV) (rec : AV) (st : St) (st' : St) : Prop :=
  ∀ G ι ok a w (cargs : Array Value) (u : FrameMode) (v : Value), SimI G ι ok st a w → cargs.size = caps.length → (∀ i, i < caps.length → Rep w ok G.B ι (caps.getD i default) (cargs.getD i undef)) →
    Rep w ok G.B ι rec v → RecAs u v → CallsD P f cargs u w fun e u' w' => (∃ cv, e = .returned cv) ∧ u' = recAfter u ∧ ∃ ι' ok', SimI G ι' ok' st' a w'
abbrev DefF (R : Type) := List AV → AV → St → (St → Option R) → Option R
def DFOK {R : Type} (P : Program) (f : FuncId) (df : DefF R) : Prop := ∀ caps rec st K r, df caps rec st K = some r → ∃ st', CDRuns P f caps rec st st' ∧ K st' = some r
def dcrun {R : Type} (na n d d2 : Nat) (tin T : Tmpl) (fn : tin.T → Option (ESum [(.normal, T)])) : DefF R := fun caps rec st K =>
  bif Nat.beq caps.length na && Nat.ble na d2 && Nat.ble na d && Nat.blt d2 n then (match tin.free.dec ⟨n, st.nk, numbered caps 0 ++ [(d2, rec)], st.ar, [], []⟩ with
    | some p => (fn p.1).bind fun y => match look (encSlots (ckey p.2 st T) T.ts y.1) 0 with
      | some _ => K (coutSt p.2 st T y)
      | none => none
    | none => none) else none
theorem dcrun_ok {R : Type} {P : Program} {f : FuncId} {na n d d2 : Nat} {tin T : Tmpl} {fn : tin.T → Option (ESum [(.normal, T)])} (h : DefOK P f na n d d2 tin [(.normal, T)] fn) (ht : tagLive tin = true) :
    DFOK (R := R) P f (dcrun na n d d2 tin T fn) := by
  intro args rec st K r hr
  obtain ⟨e, hr⟩ := cond_none hr
  simp only [Bool.and_eq_true] at e
  have e1 := beq_eq e.1.1.1
  have e2 : na ≤ d2 := Nat.le_of_ble_eq_true e.1.1.2
  have e3 : na ≤ d := Nat.le_of_ble_eq_true e.1.2
  have e4 : d2 < n := by have := e.2; simpa [Nat.blt_eq] using this
  split at hr
  · rename_i p hp
    obtain ⟨x, kb⟩ := p
    cases hf : fn x with
    | none => simp only at hr; rw [hf] at hr; cases hr
    | some y =>
      simp only at hr
      rw [hf] at hr
      have hr : (match look (encSlots (ckey kb st T) T.ts y.1) 0 with
        | some _ => K (coutSt kb st T y)
        | none => none) = some r := hr
      split at hr
      · rename_i v0 hv0
        refine ⟨_, ?_, hr⟩
        intro G ι ok a w cargs u v hs hsz hreps hrec hu
        have hcs : cargs.size = na := hsz.trans e1
        have hbig : (((cargs ++ Array.replicate (n - na) undef).setIfInBounds d v).setIfInBounds d2 v).size = n := by simp [hcs]; omega
        have hget : ∀ q, q < na → (((cargs ++ Array.replicate (n - na) undef).setIfInBounds d v).setIfInBounds d2 v).getD q undef = cargs.getD q undef := by
          intro q hq
          simp only [Array.getD_eq_getD_getElem?]
          rw [Array.getElem?_setIfInBounds_ne (by omega), Array.getElem?_setIfInBounds_ne (by omega), Array.getElem?_append_left (by omega)]
        have hgetd : (((cargs ++ Array.replicate (n - na) undef).setIfInBounds d v).setIfInBounds d2 v).getD d2 undef = v := by
          have : d2 < ((cargs ++ Array.replicate (n - na) undef).setIfInBounds d v).size := by simp [hcs]; omega
          simp only [Array.getD_eq_getD_getElem?]
          rw [Array.getElem?_setIfInBounds_self_of_lt this]; rfl
        have hA : SimI G ι ok ⟨n, st.nk, numbered args 0 ++ [(d2, rec)], st.ar, [], []⟩ ⟨((cargs ++ Array.replicate (n - na) undef).setIfInBounds d v).setIfInBounds d2 v, []⟩ w :=
          { hs with
            size := hbig
            dfn := rfl
            dfs := fun i x d hx => by simp at hx
            tags := fun k j hk => by cases hk
            slots := fun q y hy => by
              rw [look_append] at hy
              cases hl : look (numbered args 0) q with
              | some z =>
                rw [hl] at hy; injection hy with hy; subst hy
                obtain ⟨h1, h2, h3⟩ := numbered_look _ _ _ _ hl
                refine ⟨by show q < n; omega, ?_⟩
                have := hreps q (by omega)
                rw [Nat.sub_zero] at h3
                rw [h3] at this
                rw [hget q (by omega)]; exact this
              | none =>
                rw [hl] at hy
                simp only [look_cons] at hy
                split at hy
                · rename_i eq; subst eq; injection hy with hy; subst hy
                  exact ⟨e4, by rw [hgetd]; exact hrec⟩
                · cases hy }
        have hD := Tmpl.dec_simI hp hA
        have hbound := dec_bound hp hA
        have hshpo : ∀ g ∈ shpList, ¬ (fun b => ∃ k o L, look (encObjs (fun j => j) tin.objs 0 x.2.1) k = some o ∧ o.owned = true ∧ under kb ι k = some L ∧ 0 < L.cp ∧ L.b = b) g := by
          intro g hg hq
          obtain ⟨k, o, L, q1, q2, q3, q4, q5⟩ := hq
          obtain ⟨key, o', r1, r2, r3⟩ := hbound k o q1
          rw [under_of r1] at q3
          exact hs.shpOwn hg r2 (r3 q2) q3 q4 q5
        let Gc : Base := { w0 := w, ok0 := ok, own0 := fun b => ∃ k o L, look (encObjs (fun j => j) tin.objs 0 x.2.1) k = some o ∧ o.owned = true ∧ under kb ι k = some L ∧ 0 < L.cp ∧ L.b = b, B := G.B, hB := Nat.le_trans G.hB hs.heap, loc := under kb ι, shp := hs.shp, shpo := hshpo }
        have hG : SimI Gc (under kb ι) ok (tin.enc n x) ⟨((cargs ++ Array.replicate (n - na) undef).setIfInBounds d v).setIfInBounds d2 v, []⟩ w :=
          { size := hD.size
            dfn := hD.dfn
            dfs := hD.dfs
            tags := by
              intro k j hk
              have hk : look tin.tags k = some j := hk
              have hall : ∀ (l : List (Nat × Nat)), (l.all fun p => Nat.beq p.1 p.2 && (match tin.objs[p.1]? with | some .dead => false | some _ => true | none => false)) = true → look l k = some j →
                  k = j ∧ ∃ p, tin.objs[k]? = some p ∧ p ≠ .dead := by
                intro l
                induction l with
                | nil => intro _ h; cases h
                | cons q l ih =>
                  intro h1 h2
                  obtain ⟨q1, q2⟩ := q
                  simp only [List.all_cons, Bool.and_eq_true] at h1
                  rw [look_cons] at h2
                  split at h2
                  · rename_i e1; injection h2 with h2; subst h2; subst e1
                    refine ⟨beq_eq h1.1.1, ?_⟩
                    have h3 := h1.1.2
                    cases hq : tin.objs[q1]? with
                    | none => simp only [hq] at h3; cases h3
                    | some p =>
                      refine ⟨p, rfl, fun e => ?_⟩
                      subst e
                      simp only [hq] at h3; cases h3
                  · exact ih h1.2 h2
              obtain ⟨rfl, p, hp1, hp2⟩ := hall _ ht hk
              refine ⟨rfl, ?_⟩
              obtain ⟨o, ho1, ho2⟩ := objs_get tin.objs 0 x.2.1 k p hp1 hp2
              rw [Nat.zero_add] at ho1
              exact objOK_place (hD.objs k o ho1) ho2
            slots := hD.slots
            objs := hD.objs
            inj := hD.inj
            apart := fun k o L hk ho hl hc => ⟨(hD.apart k o L hk ho hl hc).1, .inl ⟨k, o, L, hk, ho, hl, hc, rfl⟩⟩
            fresh := hD.fresh
            os := rfl, tape := rfl, output := rfl
            heap := Nat.le_refl _
            block := fun _ _ _ => rfl
            okin := fun _ h => h
            oksub := fun _ h => .inl h
            oklt := hs.oklt }
        refine (h x y hf Gc cargs w v u rfl hcs ⟨_, _, hG⟩ hu).mono ?_
        rintro e' u' w' ⟨hu', hE⟩
        obtain ⟨cv, h1, ιc, okc, h2⟩ := hE
        obtain ⟨ι', ok', g1, g2⟩ := after_call (na := na) hs hbound (Gc := Gc) rfl rfl rfl rfl rfl h2 hv0
        exact ⟨⟨cv, h1⟩, hu', ι', ok', g1⟩
      · cases hr
  · cases hr

/-! ### a function with one deferred call -/
def ODK {R : Type} (P : Program) (D : FuncId → Option (DefF R)) : Prop := ∀ f df, D f = some df → (∃ fnc, P.funcs[f]? = some fnc ∧ fnc.body.isNone = false ∧ (fnc.name == "runtime.NumGoroutine") = false) ∧ DFOK P f df
def noD {R : Type} : FuncId → Option (DefF R) := fun _ => none
theorem ODK.nil {R : Type} {P : Program} : ODK (R := R) P noD := fun f df h => by cases h
def consD {R : Type} (g : FuncId) (df : DefF R) (D : FuncId → Option (DefF R)) : FuncId → Option (DefF R) := fun f => bif Nat.beq f g then some df else D f
theorem ODK.cons {R : Type} {P : Program} {g : FuncId} {df : DefF R} {D : FuncId → Option (DefF R)} (hb : hasBody P g = true) (hc : DFOK P g df) (hD : ODK P D) : ODK P (consD g df D) := by
  intro f df' h
  unfold consD at h
  cases hb' : Nat.beq f g <;> rw [hb'] at h <;> simp only [cond_true, cond_false] at h
  · exact hD f df' h
  · injection h with h; subst h
    have := beq_eq hb'; subst this
    refine ⟨?_, hc⟩
    unfold hasBody at hb
    split at hb
    · rename_i fnc hf
      rw [Bool.and_eq_true] at hb
      exact ⟨fnc, hf, by have := hb.1; simpa using this, by have := hb.2; simpa using this⟩
    · cases hb
def dcfOr {R : Type} (na n d2 : Nat) (tin : Tmpl) (df df' : DefF R) : DefF R := fun caps rec st K =>
  bif Nat.beq caps.length na && (tin.free.dec ⟨n, st.nk, numbered caps 0 ++ [(d2, rec)], st.ar, [], []⟩).isSome then df caps rec st K else df' caps rec st K
theorem dcfOr_ok {R : Type} {P : Program} {f : FuncId} {na n d2 : Nat} {tin : Tmpl} {df df' : DefF R} (h : DFOK P f df) (h' : DFOK P f df') : DFOK P f (dcfOr na n d2 tin df df') := by
  intro caps rec st K r hr
  unfold dcfOr at hr
  cases hb : (Nat.beq caps.length na && (tin.free.dec ⟨n, st.nk, numbered caps 0 ++ [(d2, rec)], st.ar, [], []⟩).isSome) <;> rw [hb] at hr
  · exact h' _ _ _ _ _ hr
  · exact h _ _ _ _ _ hr
def deferOf : List AV → Option (FuncId × List AV)
  | [.fn (.func g) [] caps] => some (g, caps)
  | _ => none
def endRet (P : Program) (rs : List ResultVar) (outs : Outs) (st : St) : Option (ESum outs) := match resAVs P st rs with
  | some vs => decEnds outs .normal (st.one (oneOr vs))
  | none => none
def decFnD (P : Program) (outs : Outs) (D : FuncId → Option (DefF (ESum outs))) (rs : List ResultVar) (x : X) (st : St) : Option (ESum outs) :=
  bif st.df.isEmpty then decFn P rs outs x st else (match deferOf st.df with
    | some (g, caps) => match D g with
      | some df => (match x with
        | .normal | .ret => df caps (.v .nilIface) { st with df := [] } (endRet P rs outs)
        | .pan v => df caps v { st with df := [] } (endRet P rs outs)
        | _ => none)
      | none => none
    | none => none)
theorem fnD_ok {P : Program} {f : FuncId} {fnc : Func} {c : Code} {na n : Nat} {tin : Tmpl} {outs : Outs} {fn : tin.T → Option (ESum outs)} {E : EvO (ESum outs)} {L : EvL (ESum outs)} {D : FuncId → Option (DefF (ESum outs))}
    (hf : P.funcs[f]? = some fnc) (hb : fnc.body = some c) (hn : fnc.ntmps = n) (hna : Nat.ble na n = true) (hE : EOK P E) (hL : LGood P L 1 c) (hD : ODK P D)
    (h : ∀ x, evCode E L 1 c (tin.enc n x) (decFnD P outs D fnc.results.toList) = fn x) : CallOK P f na tin outs fn := by
  intro x y hy G cargs w hw hsz hs
  have hle : na ≤ n := Nat.le_of_ble_eq_true hna
  rw [← h x] at hy
  obtain ⟨ex, st', hr, hk⟩ := evCode_ok hE c 1 _ _ _ hL hy
  refine calls_of_wp_defers hf hb ?_
  obtain ⟨ι, ok, hs⟩ := hs
  have hs2 : Sim G (tin.enc n x) { tmps := cargs ++ Array.replicate (fnc.ntmps - cargs.size) undef, defers := [] } w := by
    refine ⟨ι, ok, ?_⟩
    exact { hs with
      size := by simp [Tmpl.enc, hn, hsz]; omega
      slots := by
        intro t z hz
        obtain ⟨h1, h2⟩ := hs.slots t z hz
        have h1 : t < na := h1
        refine ⟨Nat.lt_of_lt_of_le h1 hle, ?_⟩
        have e : (cargs ++ Array.replicate (fnc.ntmps - cargs.size) undef).getD t undef = cargs.getD t undef := by
          simp only [Array.getD_eq_getD_getElem?]
          rw [Array.getElem?_append_left (by omega)]
        show Rep w ok G.B ι z ((cargs ++ Array.replicate (fnc.ntmps - cargs.size) undef).getD t undef)
        rw [e]; exact h2 }
  refine hr G _ w _ hs2 (fun e' a' w' hx => ?_)
  have ret : ∀ (st' : St) (a' : Act) (w' : World) (ι' ok'), SimI G ι' ok' st' a' w' → a'.defers = [] → endRet P fnc.results.toList outs st' = some y → ∃ v, (results fnc a'.tmps).run P w' = .ok v w' ∧ EndSim G outs y (.returned v) w' := by
    intro st' a' w' ι' ok' hs' hd hk
    unfold endRet at hk
    split at hk
    · rename_i vs hvs
      obtain ⟨cv, h1, h2⟩ := results_ok (P := P) hs' hvs
      refine ⟨cv, h1, decEnds_sim hk rfl rfl ?_⟩
      have := hs'.one h2
      rw [hd] at this
      exact ⟨_, _, this⟩
    · cases hk
  unfold decFnD at hk
  cases hdf : st'.df.isEmpty <;> rw [hdf] at hk <;> simp only [cond_true, cond_false] at hk
  · -- one deferred call
    split at hk
    · rename_i g caps hg
      have hdf' : st'.df = [.fn (.func g) [] caps] := by
        revert hg
        unfold deferOf
        split
        · rename_i g' caps' he
          intro hg; injection hg with hg; injection hg with e1 e2; subst e1; subst e2; exact he
        · intro hg; cases hg
      split at hk
      · rename_i df hD'
        obtain ⟨_, hdok⟩ := hD g df hD'
        -- the deferred call, at a way out
        have run : ∀ (ι' ok'), SimI G ι' ok' st' a' w' → ∀ (rec : AV) (v : Value) (u : FrameMode), Rep w' ok' G.B ι' rec v → RecAs u v → u ≠ .run → df caps rec { st' with df := [] } (endRet P fnc.results.toList outs) = some y →
            Leaves P fnc a'.tmps (EndSim G outs y) a'.defers u w' := by
          intro ι' ok' hs' rec v u hrec hu hur hk
          obtain ⟨st'', hrun, hend⟩ := hdok _ _ _ _ _ hk
          have hlen : a'.defers.length = 1 := by rw [hs'.dfn, hdf']; rfl
          obtain ⟨dd, hdd⟩ := List.length_eq_one_iff.1 hlen
          obtain ⟨vd, _, hrep, hdeq⟩ := hs'.dfs 0 (.fn (.func g) [] caps) dd (by rw [hdf']; rfl) (by rw [hdd]; rfl)
          obtain ⟨caps', e1, g2, g4⟩ : ∃ caps' : Array Value, defOf vd = { target := .fn (.func g) caps', args := #[] } ∧ caps'.size = caps.length ∧ ∀ i, i < caps.length → Rep w' ok' G.B ι' (caps.getD i default) (caps'.getD i undef) := by
            cases hrep; exact ⟨_, rfl, ‹_›, ‹_›⟩
          rw [hdd, hdeq, e1]
          have hinv : (invoke (.fn (.func g) caps') #[]).run P w' = .ok (.enter g caps') w' := by
            obtain ⟨fnc', hf', hb1, hb2⟩ := (hD _ df hD').1
            show (callFunc g (#[] ++ caps')).run P w' = _
            rw [Array.empty_append]
            unfold callFunc
            have : (program).run P w' = .ok P w' := rfl
            rw [run_ok this]
            simp only [hf']
            rw [if_neg (by simp [hb2]), if_neg (by simp [hb1])]; rfl
          refine leaves_cons hur hinv ?_
          have hs0 : SimI G ι' ok' { st' with df := [] } ⟨a'.tmps, []⟩ w' := { hs' with dfn := rfl, dfs := fun i x d hx => by simp at hx }
          refine (hrun G ι' ok' ⟨a'.tmps, []⟩ w' caps' u v hs0 g2 g4 hrec hu).mono ?_
          rintro e'' u'' w'' ⟨⟨cv, rfl⟩, rfl, ι'', ok'', hs''⟩
          show Leaves P fnc a'.tmps _ [] (settle (recAfter u)) w''
          rw [settle_rec hu]
          exact ret _ ⟨a'.tmps, []⟩ w'' ι'' ok'' hs'' rfl hend
        cases ex with
        | normal =>
          obtain ⟨rfl, ι', ok', hs'⟩ := hx
          exact run ι' ok' hs' _ .nilIface .returning (.v _) (.inl ⟨rfl, rfl⟩) (by simp) hk
        | ret =>
          obtain ⟨rfl, ι', ok', hs'⟩ := hx
          exact run ι' ok' hs' _ .nilIface .returning (.v _) (.inl ⟨rfl, rfl⟩) (by simp) hk
        | pan v =>
          obtain ⟨ι', ok', cv, rfl, hv, hs'⟩ := hx
          exact run ι' ok' hs' _ cv (.panicking [{ v := cv, recovered := false }]) hv (.inr rfl) (by simp) hk
        | exit i => cases hk
        | goto l => cases hk
      · cases hk
    · cases hk
  · have hdf : st'.df = [] := List.isEmpty_iff.1 hdf
    have hk0 : decFn P fnc.results.toList outs ex st' = some y := hk
    unfold decFn at hk0
    obtain ⟨_, hk⟩ := cond_none hk0
    cases ex with
    | normal =>
      obtain ⟨rfl, ι', ok', hs'⟩ := hx
      have hd : a'.defers = [] := List.length_eq_zero_iff.1 (by rw [hs'.dfn, hdf]; rfl)
      show Leaves P fnc a'.tmps _ a'.defers .returning w'
      rw [hd]
      exact ret st' a' w' ι' ok' hs' hd hk
    | ret =>
      obtain ⟨rfl, ι', ok', hs'⟩ := hx
      have hd : a'.defers = [] := List.length_eq_zero_iff.1 (by rw [hs'.dfn, hdf]; rfl)
      show Leaves P fnc a'.tmps _ a'.defers .returning w'
      rw [hd]
      exact ret st' a' w' ι' ok' hs' hd hk
    | pan v =>
      obtain ⟨ι', ok', cv, rfl, hv, hs'⟩ := hx
      have hd : a'.defers = [] := List.length_eq_zero_iff.1 (by rw [hs'.dfn, hdf]; rfl)
      show Leaves P fnc a'.tmps _ a'.defers (.panicking [{ v := cv, recovered := false }]) w'
      rw [hd]
      show EndSim G outs y (.panicked [{ v := cv, recovered := false }]) w'
      refine decEnds_sim hk rfl rfl ?_
      have := hs'.one hv
      rw [hd] at this
      exact ⟨_, _, this⟩
    | exit i => cases hk
    | goto l => cases hk
end Go.Ev

namespace Go.Ev
set_option linter.unusedSimpArgs false
set_option linter.unusedVariables false
/-! ### the laws: from a call of a law's function to what its row asks -/
/-- The base of a law's call: all blocks of the world are only read. -/
def lawBase (w : World) (hp : ShpW w) : Base := { w0 := w, ok0 := fun b => b < w.heap.size, own0 := fun _ => False, B := 0, hB := Nat.zero_le _, loc := fun _ => none, shp := hp, shpo := fun _ _ h => h }
def lawOuts : Outs := [(.normal, ⟨[(0, .bool)], [], [], []⟩)]
def lawOuts2 (o : XK × Tmpl) : Outs := [(.normal, ⟨[(0, .bool)], [], [], []⟩), o]
theorem law_calls {P : Program} {f : FuncId} {na : Nat} {tin : Tmpl} {fn : tin.T → Option (ESum lawOuts)} (h : CallOK P f na tin lawOuts fn) (ho : tin.objs = []) (hg : tin.tags = []) (hdf : tin.df = [])
    {x : tin.T} (hx : fn x = some ((true, ()), (), ())) {cargs : Array Value} {w : World} (hp : ShpW w) (hsz : cargs.size = na)
    (hs : ∀ t y, look (encSlots (fun j => j) tin.ts x.1) t = some y → t < na ∧ Rep w (fun b => b < w.heap.size) 0 (fun _ => none) y (cargs.getD t undef)) :
    Calls P f cargs w fun e w' => e = .returned (.bool true) ∧ Go.RowKit.Below w.heap.size w w' := by
  have hobj : ∀ {l : List OPat} {y : TOs l} {k : Nat} {o : AObj}, l = [] → look (encObjs (fun j => j) l 0 y) k = some o → False := by
    intro l y k o hl hk; subst hl; cases hk
  have hdfl : ∀ {l : List Pat} {y : Ts l}, l = [] → encs (fun j => j) l y = [] := by
    intro l y hl; subst hl; rfl
  have hS : SimI (lawBase w hp) (fun _ => none) (fun b => b < w.heap.size) (tin.enc na x) ⟨cargs, []⟩ w :=
    { size := hsz
      dfn := by show (0 : Nat) = (encs (fun j => j) tin.df x.2.2).length; rw [hdfl hdf]; rfl
      dfs := fun i y d hy hd => by simp at hd
      tags := fun k j hk => by
        have hk : look tin.tags k = some j := hk
        rw [hg] at hk; cases hk
      slots := hs
      objs := fun k o hk => (hobj ho hk).elim
      inj := fun k₁ k₂ o₁ o₂ L₁ L₂ hk₁ => (hobj ho hk₁).elim
      apart := fun k o L hk => (hobj ho hk).elim
      fresh := fun _ _ => rfl
      os := rfl, tape := rfl, output := rfl
      heap := Nat.le_refl _
      block := fun _ _ _ => rfl
      okin := fun _ h => h
      oksub := fun _ h => .inl h
      oklt := fun _ h => h }
  refine (h x _ hx (lawBase w hp) cargs w rfl hsz ⟨_, _, hS⟩).mono ?_
  intro e w' hE
  obtain ⟨v, h1, ι', ok', h2⟩ := hE
  have h1 : e = .returned v := h1
  have h3 := (h2.slots 0 (.v (.bool true)) rfl).2
  have h3 := rep_v_inv h3
  have h3 : v = .bool true := h3
  subst h3
  exact ⟨h1, ⟨h2.os, h2.tape, h2.output, h2.heap, fun k hk => h2.block k hk (fun h => h)⟩⟩
/-- the same, where the law's function has a second way out (a panic) that is not taken -/
theorem law_calls2 {o2 : XK × Tmpl} {P : Program} {f : FuncId} {na : Nat} {tin : Tmpl} {fn : tin.T → Option (ESum (lawOuts2 o2))} (h : CallOK P f na tin (lawOuts2 o2) fn) (ho : tin.objs = []) (hg : tin.tags = []) (hdf : tin.df = [])
    {x : tin.T} (hx : fn x = some (Sum.inl ((true, ()), (), ()))) {cargs : Array Value} {w : World} (hp : ShpW w) (hsz : cargs.size = na)
    (hs : ∀ t y, look (encSlots (fun j => j) tin.ts x.1) t = some y → t < na ∧ Rep w (fun b => b < w.heap.size) 0 (fun _ => none) y (cargs.getD t undef)) :
    Calls P f cargs w fun e w' => e = .returned (.bool true) ∧ Go.RowKit.Below w.heap.size w w' := by
  have hobj : ∀ {l : List OPat} {y : TOs l} {k : Nat} {o : AObj}, l = [] → look (encObjs (fun j => j) l 0 y) k = some o → False := by
    intro l y k o hl hk; subst hl; cases hk
  have hdfl : ∀ {l : List Pat} {y : Ts l}, l = [] → encs (fun j => j) l y = [] := by
    intro l y hl; subst hl; rfl
  have hS : SimI (lawBase w hp) (fun _ => none) (fun b => b < w.heap.size) (tin.enc na x) ⟨cargs, []⟩ w :=
    { size := hsz
      dfn := by show (0 : Nat) = (encs (fun j => j) tin.df x.2.2).length; rw [hdfl hdf]; rfl
      dfs := fun i y d hy hd => by simp at hd
      tags := fun k j hk => by
        have hk : look tin.tags k = some j := hk
        rw [hg] at hk; cases hk
      slots := hs
      objs := fun k o hk => (hobj ho hk).elim
      inj := fun k₁ k₂ o₁ o₂ L₁ L₂ hk₁ => (hobj ho hk₁).elim
      apart := fun k o L hk => (hobj ho hk).elim
      fresh := fun _ _ => rfl
      os := rfl, tape := rfl, output := rfl
      heap := Nat.le_refl _
      block := fun _ _ _ => rfl
      okin := fun _ h => h
      oksub := fun _ h => .inl h
      oklt := fun _ h => h }
  refine (h x _ hx (lawBase w hp) cargs w rfl hsz ⟨_, _, hS⟩).mono ?_
  intro e w' hE
  obtain ⟨v, h1, ι', ok', h2⟩ := hE
  have h1 : e = .returned v := h1
  have h3 := (h2.slots 0 (.v (.bool true)) rfl).2
  have h3 := rep_v_inv h3
  have h3 : v = .bool true := h3
  subst h3
  exact ⟨h1, ⟨h2.os, h2.tape, h2.output, h2.heap, fun k hk => h2.block k hk (fun h => h)⟩⟩
end Go.Ev

namespace Go.Ev
set_option linter.unusedSimpArgs false
set_option linter.unusedVariables false
/-! ### functions of the library, by what they compute -/
abbrev LSpec := List Value → Option (Bool × Value)
def LibOK (P : Program) (f : FuncId) (sp : LSpec) : Prop := ∀ args v w, sp args = some (true, v) → ShpW w → Calls P f args.toArray w fun e w' => e = .returned v ∧ Go.RowKit.Below w.heap.size w w'
def valsOf : List AV → Option (List Value)
  | [] => some []
  | .v x :: r => match valsOf r with
    | some l => some (x :: l)
    | none => none
  | _ => none
def avOf : Value → AV
  | .tuple cs => .tuple (cs.toList.map .v)
  | x => .v x
theorem rep_avOf {w : World} {ok : Nat → Prop} {B : Nat} {ι : Loci} (v : Value) : Rep w ok B ι (avOf v) v := by
  unfold avOf
  split
  · rename_i cs
    refine .tuple (by simp) (fun i hi => ?_)
    have hi' : i < cs.size := by simpa using hi
    simp only [List.getD_eq_getElem?_getD, List.getElem?_map, Array.getElem?_toList, Array.getD_eq_getD_getElem?]
    rw [Array.getElem?_eq_getElem hi']
    exact .v _
  · exact .v _
theorem valsOf_rep : ∀ (l : List AV) (vs : List Value), valsOf l = some vs → ∀ (w : World) (ok : Nat → Prop) (B : Nat) (ι : Loci) (c : Array Value), c.size = l.length →
    (∀ i, i < l.length → Rep w ok B ι (l.getD i default) (c.getD i undef)) → c = vs.toArray := by
  intro l vs h w ok B ι c hs hr
  have key : ∀ (l : List AV) (vs : List Value), valsOf l = some vs → vs.length = l.length ∧ ∀ i, i < l.length → l.getD i default = .v (vs.getD i undef) := by
    intro l
    induction l with
    | nil => intro vs h; simp only [valsOf] at h; injection h with h; subst h; exact ⟨rfl, fun i hi => by simp at hi⟩
    | cons x r ih =>
      intro vs h
      cases x <;> simp only [valsOf] at h <;> try (cases h; done)
      split at h
      · rename_i l' hl
        injection h with h; subst h
        obtain ⟨h1, h2⟩ := ih _ hl
        refine ⟨by simp [h1], fun i hi => ?_⟩
        cases i with
        | zero => rfl
        | succ i => simpa using h2 i (by simpa using hi)
      · cases h
  obtain ⟨h1, h2⟩ := key l vs h
  apply Array.ext
  · simp [hs, h1]
  · intro i hi hj
    have hi2 : i < l.length := by omega
    have := hr i hi2
    rw [h2 i hi2] at this
    have := rep_v_inv this
    simp only [Array.getD_eq_getD_getElem?, Array.getElem?_eq_getElem hi, Option.getD_some, List.getD_eq_getElem?_getD] at this
    rw [this]
    have hj' : i < vs.length := by omega
    simp [List.getElem?_eq_getElem hj']
def cfLib {R : Type} (sp : LSpec) : CallF R := fun args st K => match valsOf args with
  | some vs => match sp vs with
    | some p => bif p.1 then K .normal (avOf p.2) st else none
    | none => none
  | none => none
theorem cfLib_ok {R : Type} {P : Program} {f : FuncId} {sp : LSpec} (h : LibOK P f sp) : CFOK (R := R) P f (cfLib sp) := by
  intro args st K r hr
  unfold cfLib at hr
  split at hr
  · rename_i vs hvs
    split at hr
    · rename_i p hv
      obtain ⟨g, v⟩ := p
      obtain ⟨hg, hr⟩ := cond_none hr
      have hg : g = true := hg
      subst hg
      refine ⟨.normal, avOf v, st, ?_, hr⟩
      intro G ι ok a w cargs hs hsz hreps
      have e := valsOf_rep args vs hvs w ok G.B ι cargs hsz hreps
      rw [e]
      refine (h vs v w hv hs.shp).mono fun e' w' ⟨h1, h2⟩ => ?_
      have hs' : SimI G ι ok st a w' := hs.grow ⟨h2.os, h2.tape, h2.output, h2.size, h2.block⟩
      exact ⟨v, ι, ok, h1, hs', rep_avOf v⟩
    · cases hr
  · cases hr
/-! ### a loop walked round by round -/
def unroll {R : Type} (E : EvO R) (L : EvL R) (q : Nat) (c : Code) : Nat → St → (X → St → Option R) → Option R
  | 0, _, _ => none
  | n + 1, st, K => evCode E L (2 * q) c st fun x st' => match x with
    | .normal => unroll E L q c n st' K
    | x => K x st'
theorem unroll_ok {R : Type} {P : Program} {E : EvO R} {L : EvL R} {q : Nat} {c : Code} (hE : EOK P E) (hL : LGood P L (2 * q) c) (n : Nat) : LOK (R := R) P (unroll E L q c n) (.loop c) := by
  have key : ∀ n st K r, unroll E L q c n st K = some r → ∃ x st', (∀ G a w Q, Sim G st a w → (∀ ex a' w', XSim G x st' ex a' w' → Q ex a' w') → Code.rounds P c Q n a w) ∧ K x st' = some r := by
    intro n
    induction n with
    | zero => intro st K r h; cases h
    | succ n ih =>
      intro st K r h
      unfold unroll at h
      obtain ⟨x, st', h1, h2⟩ := evCode_ok hE c (2 * q) _ _ _ hL h
      by_cases hx : x = .normal
      · subst hx
        obtain ⟨x2, st2, g1, g2⟩ := ih _ _ _ h2
        refine ⟨x2, st2, fun G a w Q hs hq => ?_, g2⟩
        rw [rounds_succ]
        refine h1 G a w _ hs fun ex a' w' hx' => ?_
        obtain ⟨rfl, hs'⟩ := hx'
        exact g1 G a' w' Q hs' hq
      · refine ⟨x, st', fun G a w Q hs hq => ?_, by cases x <;> first | exact absurd rfl hx | exact h2⟩
        rw [rounds_succ]
        refine h1 G a w _ hs fun ex a' w' hx' => ?_
        have := hq ex a' w' hx'
        cases x with
        | normal => exact absurd rfl hx
        | exit i => obtain ⟨rfl, _⟩ := hx'; exact this
        | goto i => obtain ⟨rfl, _⟩ := hx'; exact this
        | ret => obtain ⟨rfl, _⟩ := hx'; exact this
        | pan v => obtain ⟨_, _, _, rfl, _⟩ := hx'; exact this
  intro st K r h
  obtain ⟨x, st', h1, h2⟩ := key n st K r h
  exact ⟨x, st', fun G a w Q hs hq => wp_loop_rounds n (h1 G a w Q hs hq), h2⟩
/-! ### what some of them compute -/
def cutA (s sep : ByteArray) : ByteArray := ⟨(Lib.cut s.data.toList sep.data.toList).1.toArray⟩
def cutB (s sep : ByteArray) : ByteArray := ⟨(Lib.cut s.data.toList sep.data.toList).2.1.toArray⟩
def cutC (s sep : ByteArray) : Bool := (Lib.cut s.data.toList sep.data.toList).2.2
def ascii (s : ByteArray) : Bool := s.data.toList.all fun b => Nat.blt b.toNat 128
def trimA (s c : ByteArray) : ByteArray := ⟨(Lib.trimS s.data.toList c.data.toList).toArray⟩
def anyA (s c : ByteArray) : Bool := Lib.containsAny s.data.toList c.data.toList
theorem ascii_spec {s : ByteArray} (h : ascii s = true) : ∀ (j : Nat) b, s.data.toList[j]? = some b → b.toNat < 128 := by
  intro j b hb
  have := List.all_eq_true.1 h b (List.mem_of_getElem? hb)
  simpa [Nat.blt_eq] using this
def spCut : LSpec
  | [.string s, .string sep] => some (decide (s.size < 4294967281), .tuple #[.string (cutA s sep), .string (cutB s sep), .bool (cutC s sep)])
  | _ => none
def spTrim : LSpec
  | [.string s, .string c] => some (ascii c && (decide (s.size ≤ 9223372036854775807) && decide (c.size < 4294967281)), .string (trimA s c))
  | _ => none
def spAny : LSpec
  | [.string s, .string c] => some (ascii c && (ascii s && (decide (s.size < 4294967281) && decide (c.size < 4294967281))), .bool (anyA s c))
  | _ => none
end Go.Ev
namespace Go.Ev
/-! ### a function that calls itself -/
def recN {A B : Type} (step : (A → Option B) → A → Option B) : Nat → A → Option B
  | 0 => fun _ => none
  | d + 1 => step (recN step d)
theorem recN_ok {P : Program} {f : FuncId} {na : Nat} {tin : Tmpl} {outs : Outs} {step : (tin.T → Option (ESum outs)) → tin.T → Option (ESum outs)}
    (h : ∀ r, CallOK P f na tin outs r → CallOK P f na tin outs (step r)) : ∀ d, CallOK P f na tin outs (recN step d)
  | 0 => fun x y hy => by cases hy
  | d + 1 => h _ (recN_ok h d)
end Go.Ev

namespace Go.Ev
set_option linter.unusedSimpArgs false
set_option linter.unusedVariables false
/-! ### a region that draws its order, walked in each of its orders -/
def stepS (E : EvO (X × St)) (o : Oper) (st : St) : Option (X × St) := E o st fun x s => some (x, s)
theorem stepS_ok {P : Program} {E : EvO (X × St)} (hE : EOK P E) {o : Oper} {st s : St} {x : X} (h : stepS E o st = some (x, s)) : RunsOp P o st x s := by
  obtain ⟨x', s', h1, h2⟩ := hE _ _ _ _ h
  injection h2 with h2; injection h2 with e1 e2; subst e1; subst e2; exact h1
def seqS (E : EvO (X × St)) (ops : Array Oper) : List Nat → St → Option St
  | [], st => some st
  | i :: r, st => match ops[i]? with
    | some o => match o.guard with
      | none => match stepS E o st with
        | some (.normal, s) => seqS E ops r s
        | _ => none
      | some _ => none
    | none => none
/-- all orders in which the operations may come up -/
def ordersG (md : Region.Mode) (ops : Array Oper) : Nat → Array Bool → List (List Nat)
  | 0, listed => match Region.ready md ops listed with
    | [] => [[]]
    | _ :: _ => [[ops.size]]
  | f + 1, listed => match Region.ready md ops listed with
    | [] => [[]]
    | l@(_ :: _) => l.flatMap fun i => (ordersG md ops f (listed.setIfInBounds i true)).map (i :: ·)
theorem ordersG_ne (md : Region.Mode) (ops : Array Oper) : ∀ (f : Nat) (listed : Array Bool), ∃ π, π ∈ ordersG md ops f listed
  | 0, listed => by
    unfold ordersG
    split
    · exact ⟨_, List.mem_singleton.2 rfl⟩
    · exact ⟨_, List.mem_singleton.2 rfl⟩
  | f + 1, listed => by
    unfold ordersG
    split
    · exact ⟨_, List.mem_singleton.2 rfl⟩
    · rename_i l a r e
      obtain ⟨π, h⟩ := ordersG_ne md ops f (listed.setIfInBounds a true)
      exact ⟨a :: π, List.mem_flatMap.2 ⟨a, List.mem_cons_self, List.mem_map.2 ⟨π, h, rfl⟩⟩⟩
theorem wpAny_orders {P : Program} {md : Region.Mode} {ops : Array Oper} {E : EvO (X × St)} (hE : EOK P E) {G : Base} {Q : Exit → Act → World → Prop} : ∀ (f : Nat) (listed : Array Bool) (st : St) (a : Act) (w : World),
    (∀ π ∈ ordersG md ops f listed, ∃ st', seqS E ops π st = some st' ∧ ∀ a w, Sim G st' a w → Q .normal a w) → Sim G st a w → wpAny P md ops Q f listed a w
  | 0, listed, st, a, w, h, hs => by
    unfold ordersG at h
    unfold wpAny
    split at h
    · rename_i h0
      obtain ⟨st', h1, h2⟩ := h [] (List.mem_singleton.2 rfl)
      injection h1 with h1; subst h1
      exact ⟨h0, h2 a w hs⟩
    · obtain ⟨st', h1, h2⟩ := h [ops.size] (List.mem_singleton.2 rfl)
      simp [seqS] at h1
  | f + 1, listed, st, a, w, h, hs => by
    unfold ordersG at h
    unfold wpAny
    split at h
    · rename_i h0
      obtain ⟨st', h1, h2⟩ := h [] (List.mem_singleton.2 rfl)
      injection h1 with h1; subst h1
      exact ⟨fun _ => h2 a w hs, fun i hi => by rw [h0] at hi; cases hi⟩
    · rename_i l a0 r e
      refine ⟨fun h0 => (by rw [e] at h0; cases h0), fun i hi => ?_⟩
      rw [e] at hi
      have sub : ∀ π ∈ ordersG md ops f (listed.setIfInBounds i true), ∃ st', seqS E ops (i :: π) st = some st' ∧ ∀ a w, Sim G st' a w → Q .normal a w :=
        fun π hπ => h (i :: π) (List.mem_flatMap.2 ⟨i, hi, List.mem_map.2 ⟨π, hπ, rfl⟩⟩)
      obtain ⟨π0, hπ0⟩ := ordersG_ne md ops f (listed.setIfInBounds i true)
      obtain ⟨st0, q1, _⟩ := sub π0 hπ0
      unfold seqS at q1
      split at q1
      · rename_i o ho
        split at q1
        · rename_i hg
          split at q1
          · rename_i s hst
            have hrun := stepS_ok hE hst
            unfold wpOp
            simp only [ho]
            have hw : Region.wanted o (yielded ops a.tmps) = true := by unfold Region.wanted; rw [hg]
            rw [if_pos hw]
            refine .inl (hrun G a w _ _ hs ?_)
            rintro ex a' w' ⟨rfl, hs'⟩
            refine wpAny_orders hE f _ s a' w' (fun π hπ => ?_) hs'
            obtain ⟨st', r1, r2⟩ := sub π hπ
            refine ⟨st', ?_, r2⟩
            unfold seqS at r1
            simp only [ho, hg, hst] at r1
            exact r1
          · cases q1
        · cases q1
      · cases q1
def opsOf : Code → Array Oper
  | .region _ ops _ => ops
  | _ => #[]
def isDraw : Code → Bool
  | .region _ _ true => true
  | _ => false
def allP {α : Type} (p : α → Prop) : List α → Prop
  | [] => True
  | a :: r => p a ∧ allP p r
theorem allP_mem {α : Type} {p : α → Prop} : ∀ {l : List α}, allP p l → ∀ a ∈ l, p a
  | [], _, a, h => by cases h
  | b :: r, hp, a, h => by
    rcases List.mem_cons.1 h with rfl | h
    · exact hp.1
    · exact allP_mem hp.2 a h
theorem drawAll_ok {P : Program} {c : Code} {n : Nat} {tin : Tmpl} {outs : Outs} {fn : tin.T → Option (ESum outs)} {E : EvO (X × St)} (hm : P.follows .mixedOrders = true) (hc : isDraw c = true) (hE : EOK P E) {πs : List (List Nat)}
    (ho : ordersG .any (opsOf c) (opsOf c).size (Array.replicate (opsOf c).size false) = πs)
    (h : allP (fun π => ∀ x, (seqS E (opsOf c) π (tin.enc n x)).bind (decAt n outs .normal) = fn x) πs) : FnOK P c n tin outs fn := by
  unfold isDraw at hc
  split at hc
  · rename_i id ops
    intro x y hy G a w Q hs hq
    refine wp_region_any hm ?_
    have hs' : Sim G (tin.enc n x) a { w with drawn := w.drawn + 1 } := by
      obtain ⟨ι, ok, hs⟩ := hs
      exact ⟨ι, ok, hs.grow ⟨rfl, rfl, rfl, Nat.le_refl _, fun _ _ => rfl⟩⟩
    refine wpAny_orders hE _ _ _ _ _ (fun π hπ => ?_) hs'
    have hx := allP_mem h π (by rw [← ho]; exact hπ) x
    rw [hy] at hx
    cases hseq : seqS E ops π (tin.enc n x) with
    | none => rw [show opsOf (Code.region id ops true) = ops from rfl, hseq] at hx; cases hx
    | some st' =>
      rw [show opsOf (Code.region id ops true) = ops from rfl, hseq] at hx
      have hx : decAt n outs .normal st' = some y := hx
      refine ⟨st', rfl, fun a' w' hs2 => ?_⟩
      obtain ⟨e, hd⟩ := decAt_ok hx
      have := decOuts_sim (G := G) (ex := .normal) (a := a') (w := w') hd ⟨rfl, hs2⟩
      rw [e] at this
      exact hq _ _ _ this
  · cases hc
/-- the operations of a region in the order of the text -/
def drawLex {R : Type} (E : EvO R) (ops : Array Oper) : St → (X → St → Option R) → Option R := fun st K => evOps E ops ops.toList st K
end Go.Ev

namespace Go.Ev
set_option linter.unusedSimpArgs false
set_option linter.unusedVariables false
/-! ### bytes that nobody has written yet: whatever they are, what comes of it is the same -/
def seqL (E : EvO (X × St)) : List Oper → St → Option St
  | [], st => some st
  | o :: r, st => match o.guard with
    | none => match stepS E o st with
      | some (.normal, s) => seqL E r s
      | _ => none
    | some _ => none
theorem seqL_ok {P : Program} {E : EvO (X × St)} (hE : EOK P E) {all : Array Oper} {G : Base} {Q : Exit → Act → World → Prop} {l' : List Oper} : ∀ (l : List Oper) (st st' : St) (a : Act) (w : World), seqL E l st = some st' → Sim G st a w →
    (∀ a w, Sim G st' a w → wpList P all Q l' a w) → wpList P all Q (l ++ l') a w
  | [], st, st', a, w, h, hs, hq => by injection h with h; subst h; exact hq a w hs
  | o :: r, st, st', a, w, h, hs, hq => by
    rw [List.cons_append, wpList]
    unfold seqL at h
    split at h
    · rename_i hg
      split at h
      · rename_i s hst
        have hw : Region.wanted o (yielded all a.tmps) = true := by unfold Region.wanted; rw [hg]
        rw [if_pos hw]
        refine .inl (stepS_ok hE hst G a w _ _ hs ?_)
        rintro ex a' w' ⟨rfl, hs'⟩
        exact seqL_ok hE r s st' a' w' h hs' hq
      · cases h
    · cases h
def hvRest {R : Type} (E : EvO R) (L : EvL R) (p : Nat) (all : Array Oper) (post : List Oper) (d : Nat) (arg : Operand) (rest : Code) (F : Int → List Int) (st : St) (K : X → St → Option R) : Option R :=
  match opnd st arg with
  | some (.v (.int .i64 n)) => bif decide (0 ≤ n) && (decide (n ≤ 281474976710656) && dstOk st.n (some d)) then
      evOps E all post ((newRowSt st (.I .u8 (F n))).put (some d) (.own st.nk)) fun x st => match x with
        | .normal => evCode E L (2 * p + 1) rest st K
        | x => K x st
      else none
  | _ => none
def isCallTo (g : FuncId) (o : Oper) : Bool :=
  match o.op, o.dst, o.guard with
  | .call ⟨.value (.func f), args, _⟩, some _, none => Nat.beq f g && Nat.beq args.size 1
  | _, _, _ => false
def argOf (o : Oper) : Operand :=
  match o.op with
  | .call ⟨_, args, _⟩ => args.toList.headD (.const undef)
  | _ => .const undef
def upTo (g : FuncId) : List Oper → List Oper
  | [] => []
  | o :: r => bif isCallTo g o then [] else o :: upTo g r
def fromOn (g : FuncId) : List Oper → List Oper
  | [] => []
  | o :: r => bif isCallTo g o then o :: r else fromOn g r
theorem upTo_fromOn (g : FuncId) : ∀ l : List Oper, l = upTo g l ++ fromOn g l
  | [] => rfl
  | o :: r => by
    unfold upTo fromOn
    cases isCallTo g o
    · simp only [cond_false, List.cons_append]; rw [← upTo_fromOn g r]
    · rfl
def seqFst : Code → Code
  | .seq a _ => a
  | c => c
def seqSnd : Code → Code
  | .seq _ b => b
  | c => c
def isPlain : Code → Bool
  | .seq (.region _ _ false) _ => true
  | _ => false
/-- a call of MakeNoZero inside a region: the rest is the same whatever the new bytes are -/
def hvCode {R : Type} (E : EvO R) (E' : EvO (X × St)) (L : EvL R) (p : Nat) (g : FuncId) (c : Code) (F : Int → List Int) (st : St) (K : X → St → Option R) : Option R :=
  match seqL E' (upTo g (opsOf (seqFst c)).toList) st, fromOn g (opsOf (seqFst c)).toList with
  | some s, o :: post => match o.dst with
    | some d => hvRest E L p (opsOf (seqFst c)) post d (argOf o) (seqSnd c) F s K
    | none => none
  | _, _ => none
theorem digits_get : ∀ (n t : Nat) (acc : Array Value), (∀ i, i < acc.size → ∃ x : Int, acc.getD i undef = .int .u8 x) → ∀ i, i < acc.size + n → ∃ x : Int, (Extern.BytealgMakeNoZero.digits n t acc).getD i undef = .int .u8 x
  | 0, t, acc, h, i, hi => h i (by omega)
  | n + 1, t, acc, h, i, hi => by
    unfold Extern.BytealgMakeNoZero.digits
    refine digits_get n _ _ (fun j hj => ?_) i (by simp; omega)
    rw [Array.size_push] at hj
    by_cases e : j < acc.size
    · obtain ⟨x, hx⟩ := h j e
      refine ⟨x, ?_⟩
      rw [← hx]
      simp only [Array.getD_eq_getD_getElem?, Array.getElem?_push]
      rw [if_neg (by omega)]
    · have : j = acc.size := by omega
      subst this
      exact ⟨_, by simp [Array.getD_eq_getD_getElem?]; rfl⟩
theorem run_makeNoZeroX {P : Program} (w : World) (ps : Array TypeId) (t e : TypeId) (ht : P.underlying t = some (.slice e)) (n : Nat) (hn : n ≤ 281474976710656) :
    ∃ cs : Array Value, (Extern.BytealgMakeNoZero.makeNoZero ps #[t] #[.int .i64 n]).run P w = .ok (.slice (some ⟨w.heap.size, 0, none⟩) n cs.size) (w.drew.drew.alloc (.cells cs e)) ∧ n ≤ cs.size ∧ ∀ i, i < cs.size → ∃ x : Int, cs.getD i undef = .int .u8 x := by
  have hdef : Extern.BytealgMakeNoZero.makeNoZero ps #[t] #[.int .i64 n] =
      (do
        let .slice elem ← underlying t | stuck "bytealg.MakeNoZero: slice type expected"
        if (n : Int) < 0 || (n : Int) > 2 ^ 48 then runtimePanic (.error "makeslice: len out of range")
        let cap ← choose (.appendCap (n : Int).toNat 0 elem)
        askRoom cap
        let bytes ← choose (.extern "internal/bytealg.MakeNoZero.bytes" 0)
        let a ← newRow elem (Extern.BytealgMakeNoZero.digits cap bytes #[])
        pure (.slice (some a) (n : Int).toNat cap)) := rfl
  refine ⟨Extern.BytealgMakeNoZero.digits (grownCap w n 0 e) ((Question.extern "internal/bytealg.MakeNoZero.bytes" 0).cut (w.tape (w.drawn + 1) (.extern "internal/bytealg.MakeNoZero.bytes" 0))) #[], ?_, ?_, ?_⟩
  · rw [hdef]
    have h1 : ¬ (n : Int) < 0 := by omega
    have h2 : ¬ (281474976710656 : Int) < (n : Int) := by omega
    simp [run_underlying ht, h1, h2, Question.forced, newRow, Lib.size_digits, grownCap]
  · rw [Lib.size_digits]
    simpa using grownCap_ge w n 0 e
  · intro i hi
    rw [Lib.size_digits] at hi
    exact digits_get _ _ _ (fun j hj => by simp at hj) i hi
theorem havoc_ok {P : Program} {c : Code} {n p : Nat} {tin : Tmpl} {outs : Outs} {fn : tin.T → Option (ESum outs)} {E : EvO (ESum outs)} {E' : EvO (X × St)} {L : EvL (ESum outs)} {g : FuncId} {ps : Array TypeId} {t e : TypeId} (he : e = u8T)
    (hc : isPlain c = true) (hE : EOK P E) (hE' : EOK P E') (hL : LGood P L (2 * p + 1) (seqSnd c)) (ht : P.underlying t = some (.slice e))
    (hcall : ∀ args w, (callFunc g args).run P w = ((Extern.BytealgMakeNoZero.makeNoZero ps #[t] args).run P w).andThen fun v w' => .ok (.value v) w')
    (h : ∀ F, (∀ m, (F m).length = m.toNat) → ∀ x y, fn x = some y → hvCode E E' L p g c F (tin.enc n x) (decAt n outs) = some y) : FnOK P c n tin outs fn := by
  intro x y hy G a w Q hs hq
  unfold isPlain at hc
  split at hc
  · rename_i id ops rest
    have h0 := h (fun m => List.replicate m.toNat 0) (fun m => by simp) x y hy
    unfold hvCode at h0
    split at h0
    · rename_i s o post hs1 hfrom
      split at h0
      · rename_i d hd
        have hF : ∀ F, (∀ m, (F m).length = m.toNat) → hvRest E L p ops post d (argOf o) rest F s (decAt n outs) = some y := by
          intro F hF
          have := h F hF x y hy
          unfold hvCode at this
          rw [hs1, hfrom] at this
          simp only [hd] at this
          exact this
        refine wp_seq (wp_region_list ?_)
        have hl : ops.toList = upTo g ops.toList ++ (o :: post) := by
          have := upTo_fromOn g ops.toList
          rw [show fromOn g ops.toList = o :: post from hfrom] at this
          exact this
        rw [hl]
        refine seqL_ok hE' _ _ s a w hs1 hs (fun a1 w1 hsim => ?_)
        -- the call
        have hcallo : isCallTo g o = true := by
          have key : ∀ l : List Oper, fromOn g l = o :: post → isCallTo g o = true := by
            intro l
            induction l with
            | nil => intro h; cases h
            | cons o' r ih =>
              intro h
              unfold fromOn at h
              cases hb : isCallTo g o' <;> rw [hb] at h
              · exact ih h
              · injection h with h1 h2; rw [← h1]; exact hb
          exact key _ hfrom
        unfold isCallTo at hcallo
        split at hcallo
        · rename_i f args ats d' ho hd' hg
          rw [Bool.and_eq_true] at hcallo
          have e1 := beq_eq hcallo.1; subst e1
          have e2 := beq_eq hcallo.2
          rw [hd'] at hd; injection hd with hd; subst hd
          have harg : ∃ z, args = #[z] ∧ argOf o = z := by
            unfold argOf
            rw [ho]
            obtain ⟨la⟩ := args
            match la, e2 with
            | [z], _ => exact ⟨z, rfl, rfl⟩
          obtain ⟨z, rfl, hz⟩ := harg
          have h1 := hF (fun m => List.replicate m.toNat 0) (fun m => by simp)
          unfold hvRest at h1
          split at h1
          · rename_i m hm
            obtain ⟨hc, _⟩ := cond_none h1
            simp only [Bool.and_eq_true, decide_eq_true_eq] at hc
            rw [wpList]
            have hw : Region.wanted o (yielded ops a1.tmps) = true := by unfold Region.wanted; rw [hg]
            rw [if_pos hw]
            refine .inl ?_
            obtain ⟨ι, ok, hS⟩ := hsim
            have hv := rep_v_inv (hS.opnd hm)
            rw [hz] at hv
            have hmn : m = ((m.toNat : Nat) : Int) := by omega
            obtain ⟨cs, r1, r2, r3⟩ := run_makeNoZeroX (P := P) w1 ps t e ht m.toNat (by omega)
            unfold Oper.wp
            have hrun : (execOp a1.eval o).run P w1 = .ok (.value (.slice (some ⟨w1.heap.size, 0, none⟩) m.toNat cs.size)) (w1.drew.drew.alloc (.cells cs e)) := by
              unfold execOp
              rw [ho]
              show (do let d ← resolve a1.eval { callee := .value (.func f), args := #[z], argTypes := ats } o.type; invoke d.target d.args : Sem Next).run P w1 = _
              have hfv : a1.eval (.func f) = .func (.func f) #[] #[] := rfl
              have hres : (resolve a1.eval { callee := .value (.func f), args := #[z], argTypes := ats } o.type).run P w1 = .ok { target := .fn (.func f) #[], args := #[a1.eval z] } w1 := by
                unfold resolve
                simp only [hfv]
                show Sem.run P (pure _) w1 = _
                have hm : Array.map a1.eval #[z] = #[a1.eval z] := by simp
                simp only [Deferred.ofValue, Array.empty_append, hm]
                rfl
              rw [run_ok hres]
              show (callFunc f #[a1.eval z]).run P w1 = _
              rw [hcall, hv, hmn, r1]
              rfl
            rw [hrun]
            let lst : List Int := (List.range m.toNat).map fun i => match cs.getD i undef with | .int _ x => x | _ => 0
            have hlst : lst.length = m.toNat := by simp [lst]
            let F : Int → List Int := fun q => if q = m then lst else List.replicate q.toNat 0
            have hFl : ∀ q, (F q).length = q.toNat := by
              intro q
              show (if q = m then lst else List.replicate q.toNat 0).length = _
              split
              · rename_i e; rw [e]; exact hlst
              · simp
            have h2 := hF F hFl
            unfold hvRest at h2
            rw [hm] at h2
            simp only at h2
            obtain ⟨_, h2⟩ := cond_none h2
            have hFm : F m = lst := if_pos rfl
            rw [hFm] at h2
            have hdrew : SimI G ι ok s a1 w1.drew.drew := (hS.same rfl rfl rfl rfl)
            obtain ⟨n1, n2⟩ := newRow_ok hdrew (l := .I .u8 lst) (vs := cs) (e := e) (c := cs.size) (by show lst.length ≤ _; omega) (by simp [Lst.sz])
              (fun i j hi hj => by
                have hi : i < lst.length := hi
                have hj : j = 0 := by have : j < 1 := hj; omega
                subst hj
                obtain ⟨q, hq⟩ := r3 i (by omega)
                show Rep _ _ _ _ (.v (.int .u8 (lst.getD i 0))) (cs.getD (i * 1 + 0) undef)
                rw [Nat.mul_one, Nat.add_zero, hq]
                have : lst.getD i 0 = q := by
                  have hi' : i < m.toNat := by omega
                  simp only [lst, List.getD_eq_getElem?_getD, List.getElem?_map, List.getElem?_range hi', Option.map_some, Option.getD_some, hq]
                rw [this]; exact .v _) (fun i hi => rfl) he
            have hsize : w1.drew.drew.heap.size = w1.heap.size := rfl
            have hll : (Lst.I .u8 lst).length = m.toNat := hlst
            rw [hsize, hll] at n2
            show wpList P ops _ post (a1.put o.dst _) _
            rw [hd']
            rw [hsize, hll] at n1
            have n3 := n1.put (d := some d') hc.2.2 n2
            obtain ⟨x2, st2, g1, g2⟩ := evOps_ok hE _ _ _ _ h2
            by_cases hx2 : x2 = .normal
            · subst hx2
              have g2 : evCode E L (2 * p + 1) rest st2 (decAt n outs) = some y := g2
              obtain ⟨x3, st3, k1, k2⟩ := evCode_ok hE rest (2 * p + 1) _ _ _ hL g2
              refine g1 G _ _ _ ⟨_, _, n3⟩ (fun ex a' w' hx => ?_)
              obtain ⟨rfl, hsx⟩ := hx
              refine k1 G a' w' Q hsx (fun ex' a'' w'' hx' => hq ex' a'' w'' ?_)
              obtain ⟨hn, hd⟩ := decAt_ok k2
              have := decOuts_sim hd hx'
              rw [hn] at this; exact this
            · have g2 : decAt n outs x2 st2 = some y := by cases x2 <;> first | exact absurd rfl hx2 | exact g2
              refine g1 G _ _ _ ⟨_, _, n3⟩ (fun ex a' w' hx => ?_)
              have hfin : XSim G (outP n outs y).1 (outP n outs y).2 ex a' w' := by
                obtain ⟨hn, hd⟩ := decAt_ok g2
                have := decOuts_sim hd hx
                rw [hn] at this; exact this
              have := hq ex a' w' hfin
              cases x2 with
              | normal => exact absurd rfl hx2
              | exit i => obtain ⟨rfl, _⟩ := hx; exact this
              | goto i => obtain ⟨rfl, _⟩ := hx; exact this
              | ret => obtain ⟨rfl, _⟩ := hx; exact this
              | pan v => obtain ⟨_, _, _, rfl, _⟩ := hx; exact this
          · cases h1
        · cases hcallo
      · cases h0
    · cases h0
  · cases hc
end Go.Ev

namespace Go.Ev
set_option linter.unusedSimpArgs false
set_option linter.unusedVariables false
/-! ### the orders of a region, moves taken first -/
def isMv (o : Oper) : Bool := match o.op, o.guard with
  | .move _, none => true
  | .assign _, none => true
  | _, _ => false
def freeM (ops : Array Oper) (m : List Nat) (listed : Array Bool) (i : Nat) : Bool :=
  match ops[i]? with
  | some oi => isMv oi && (List.range ops.size).all fun j => Nat.beq j i || (listed.getD j true || (Nat.testBit (m.getD j 0) i || (match ops[j]? with
    | some oj => oi.apart ops oj
    | none => false)))
  | none => false
def eager (ops : Array Oper) (m : List Nat) (listed : Array Bool) : Option Nat := (Region.ready .any ops listed).find? (freeM ops m listed)
def ordersT (ops : Array Oper) (m : List Nat) : Nat → Array Bool → List (List Nat)
  | 0, listed => match Region.ready .any ops listed with
    | [] => [[]]
    | _ :: _ => [[ops.size]]
  | f + 1, listed => match eager ops m listed with
    | some i => (ordersT ops m f (listed.setIfInBounds i true)).map (i :: ·)
    | none => match Region.ready .any ops listed with
      | [] => [[]]
      | a :: r => (a :: r).flatMap fun i => (ordersT ops m f (listed.setIfInBounds i true)).map (i :: ·)
theorem ordersT_ne (ops : Array Oper) (m : List Nat) : ∀ (f : Nat) (listed : Array Bool), ∃ π, π ∈ ordersT ops m f listed
  | 0, listed => by
    unfold ordersT
    split
    · exact ⟨_, List.mem_singleton.2 rfl⟩
    · exact ⟨_, List.mem_singleton.2 rfl⟩
  | f + 1, listed => by
    unfold ordersT
    split
    · rename_i i _
      obtain ⟨π, h⟩ := ordersT_ne ops m f (listed.setIfInBounds i true)
      exact ⟨i :: π, List.mem_map.2 ⟨π, h, rfl⟩⟩
    · split
      · exact ⟨_, List.mem_singleton.2 rfl⟩
      · rename_i a r e
        obtain ⟨π, h⟩ := ordersT_ne ops m f (listed.setIfInBounds a true)
        exact ⟨a :: π, List.mem_flatMap.2 ⟨a, List.mem_cons_self, List.mem_map.2 ⟨π, h, rfl⟩⟩⟩
theorem seqS_head {E : EvO (X × St)} {ops : Array Oper} {i : Nat} {π : List Nat} {st st' : St} (h : seqS E ops (i :: π) st = some st') :
    ∃ o s, ops[i]? = some o ∧ o.guard = none ∧ stepS E o st = some (.normal, s) ∧ seqS E ops π s = some st' := by
  unfold seqS at h
  split at h
  · rename_i o ho
    split at h
    · rename_i hg
      split at h
      · rename_i s hs; exact ⟨o, s, ho, hg, hs, h⟩
      · cases h
    · cases h
  · cases h
theorem step_move {P : Program} {O : FuncId → Option (CallF (X × St))} {o : Oper} {st s : St} (hm : isMv o = true) (h : stepS (evOp P O) o st = some (.normal, s)) :
    ∃ x y, (o.op = .move x ∨ o.op = .assign x) ∧ opndR st x = some y ∧ dstOk st.n o.dst = true ∧ s = st.put o.dst y := by
  have key : ∀ x, (o.op = .move x ∨ o.op = .assign x) → evMove o x st (fun x s => some (x, s)) = some (X.normal, s) → ∃ x y, (o.op = .move x ∨ o.op = .assign x) ∧ opndR st x = some y ∧ dstOk st.n o.dst = true ∧ s = st.put o.dst y := by
    intro x hx hh
    obtain ⟨y, h1, h2⟩ := evMove_get hh
    obtain ⟨h3, h4⟩ := cond_none h2
    injection h4 with h4; injection h4 with _ h4
    exact ⟨x, y, hx, h1, h3, h4.symm⟩
  unfold isMv at hm
  unfold stepS evOp at h
  split at hm
  · rename_i x ho _
    rw [ho] at h
    exact key x (.inl ho) h
  · rename_i x ho _
    rw [ho] at h
    exact key x (.inr ho) h
  · cases hm
theorem find_mem {α : Type} {p : α → Bool} : ∀ {l : List α} {a : α}, l.find? p = some a → a ∈ l ∧ p a = true
  | [], a, h => by cases h
  | b :: r, a, h => by
    rw [List.find?_cons] at h
    split at h
    · injection h with h; subst h; exact ⟨List.mem_cons_self, by assumption⟩
    · obtain ⟨h1, h2⟩ := find_mem h; exact ⟨List.mem_cons_of_mem _ h1, h2⟩
theorem wpAnyG_tree {P : Program} {ops : Array Oper} {m : List Nat} {O : FuncId → Option (CallF (X × St))} (hO : OOK P O) (hsel : Region.noSelect ops = true) (hB : waitB .any ops m = true) {G : Base} {Q : Act → World → Prop} :
    ∀ (f : Nat) (listed : Array Bool) (st : St) (a : Act) (w : World), HeadInv .any ops ops.size listed →
    (∀ π ∈ ordersT ops m f listed, ∃ st', seqS (evOp P O) ops π st = some st' ∧ ∀ a w, Sim G st' a w → Q a w) → Sim G st a w → wpAnyG P .any ops (fun _ => false) Q f listed a w
  | 0, listed, st, a, w, inv, h, hs => by
    unfold ordersT at h
    unfold wpAnyG
    split at h
    · rename_i h0
      obtain ⟨st', h1, h2⟩ := h [] (List.mem_singleton.2 rfl)
      injection h1 with h1; subst h1
      exact ⟨h0, h2 a w hs⟩
    · obtain ⟨st', h1, h2⟩ := h [ops.size] (List.mem_singleton.2 rfl)
      simp [seqS] at h1
  | f + 1, listed, st, a, w, inv, h, hs => by
    unfold ordersT at h
    split at h
    · rename_i i he
      obtain ⟨hr, hfr⟩ := find_mem he
      have sub : ∀ π ∈ ordersT ops m f (listed.setIfInBounds i true), ∃ st', seqS (evOp P O) ops (i :: π) st = some st' ∧ ∀ a w, Sim G st' a w → Q a w :=
        fun π hπ => h (i :: π) (List.mem_map.2 ⟨π, hπ, rfl⟩)
      obtain ⟨π0, hπ0⟩ := ordersT_ne ops m f (listed.setIfInBounds i true)
      obtain ⟨st0, q1, _⟩ := sub π0 hπ0
      obtain ⟨oi, s, ho, hg, hst, _⟩ := seqS_head q1
      unfold freeM at hfr
      rw [ho] at hfr
      rw [Bool.and_eq_true] at hfr
      obtain ⟨x, y, hop, hx, hd, hput⟩ := step_move hfr.1 hst
      have hilt : i < ops.size := (Array.getElem?_eq_some_iff.1 ho).1
      have hw : Region.wanted oi (yielded ops a.tmps) = true := by unfold Region.wanted; rw [hg]
      refine wpAnyG_first (any := true) (oi := oi) (v := a.eval x) hB ho (Region.noSelect_spec hsel) f listed a w inv (fun j oj hj hji hun hno => ⟨?_, .inl rfl⟩) hr (.inl ⟨hw, fun w' _ => ?_⟩) ?_
      · have hjlt : j < ops.size := (Array.getElem?_eq_some_iff.1 hj).1
        have := List.all_eq_true.1 hfr.2 j (List.mem_range.2 hjlt)
        rw [hj] at this
        simp only [Bool.or_eq_true] at this
        rcases this with h1 | h1 | h1 | h1
        · exact absurd (beq_eq h1) hji
        · rw [hun] at h1; cases h1
        · rw [hno] at h1; cases h1
        · exact h1
      · unfold execOp
        rcases hop with hop | hop <;> rw [hop] <;> rfl
      · refine wpAnyG_tree (G := G) hO hsel hB f _ s _ w (inv.set hr hilt) (fun π hπ => ?_) ?_
        · obtain ⟨st', r1, r2⟩ := sub π hπ
          obtain ⟨o2, s2, ho2, hg2, hst2, r3⟩ := seqS_head r1
          rw [ho] at ho2; injection ho2 with ho2; subst ho2
          rw [hst] at hst2; injection hst2 with hst2; injection hst2 with _ hst2; subst hst2
          exact ⟨st', r3, r2⟩
        · obtain ⟨ι, ok, hs⟩ := hs
          rw [hput]
          exact ⟨ι, ok, hs.put hd (hs.opndR hx)⟩
    · unfold wpAnyG
      split at h
      · rename_i h0
        obtain ⟨st', h1, h2⟩ := h [] (List.mem_singleton.2 rfl)
        injection h1 with h1; subst h1
        exact ⟨fun _ => h2 a w hs, fun i hi => by rw [h0] at hi; cases hi⟩
      · rename_i a0 r e
        refine ⟨fun h0 => (by rw [e] at h0; cases h0), fun i hi => ?_⟩
        have sub : ∀ π ∈ ordersT ops m f (listed.setIfInBounds i true), ∃ st', seqS (evOp P O) ops (i :: π) st = some st' ∧ ∀ a w, Sim G st' a w → Q a w :=
          fun π hπ => h (i :: π) (List.mem_flatMap.2 ⟨i, by rw [← e]; exact hi, List.mem_map.2 ⟨π, hπ, rfl⟩⟩)
        obtain ⟨π0, hπ0⟩ := ordersT_ne ops m f (listed.setIfInBounds i true)
        obtain ⟨st0, q1, _⟩ := sub π0 hπ0
        obtain ⟨o, s, ho, hg, hst, _⟩ := seqS_head q1
        have hilt : i < ops.size := (Array.getElem?_eq_some_iff.1 ho).1
        have hw : Region.wanted o (yielded ops a.tmps) = true := by unfold Region.wanted; rw [hg]
        unfold gOp
        simp only [ho, hw, if_true]
        refine stepS_ok (evOp_ok hO) hst G a w _ _ hs ?_
        intro ex a' w' hx'
        obtain ⟨rfl, hs'⟩ := hx'
        refine ⟨fun hf => (by cases hf), wpAnyG_tree (G := G) hO hsel hB f _ s a' w' (inv.set hi hilt) (fun π hπ => ?_) hs'⟩
        obtain ⟨st', r1, r2⟩ := sub π hπ
        obtain ⟨o2, s2, ho2, hg2, hst2, r3⟩ := seqS_head r1
        rw [ho] at ho2; injection ho2 with ho2; subst ho2
        rw [hst] at hst2; injection hst2 with hst2; injection hst2 with _ hst2; subst hst2
        exact ⟨st', r3, r2⟩
theorem drawTree_ok {P : Program} {c : Code} {n : Nat} {tin : Tmpl} {outs : Outs} {fn : tin.T → Option (ESum outs)} {O : FuncId → Option (CallF (X × St))} (hm : P.follows .mixedOrders = true) (hc : isDraw c = true) (hO : OOK P O)
    (hsel : Region.noSelect (opsOf c) = true) (hB : waitB .any (opsOf c) (masksOf (opsOf c)) = true) {πs : List (List Nat)}
    (ho : ordersT (opsOf c) (masksOf (opsOf c)) (opsOf c).size (Array.replicate (opsOf c).size false) = πs)
    (h : allP (fun π => ∀ x, (seqS (evOp P O) (opsOf c) π (tin.enc n x)).bind (decAt n outs .normal) = fn x) πs) : FnOK P c n tin outs fn := by
  unfold isDraw at hc
  split at hc
  · rename_i id ops
    intro x y hy G a w Q hs hq
    refine wp_region_any hm (wpAny_of_G (gs := fun _ => false) (Q := fun a w => Q .normal a w) (fun _ _ h => h) _ _ _ _ ?_)
    have hs' : Sim G (tin.enc n x) a { w with drawn := w.drawn + 1 } := by
      obtain ⟨ι, ok, hs⟩ := hs
      exact ⟨ι, ok, hs.grow ⟨rfl, rfl, rfl, Nat.le_refl _, fun _ _ => rfl⟩⟩
    refine wpAnyG_tree (G := G) hO hsel hB _ _ _ _ _ ⟨by simp [opsOf], fun j oj _ hl => (by rw [getD_replicate_false] at hl; cases hl), fun t ht ht' => absurd ht' (by omega)⟩ (fun π hπ => ?_) hs'
    have hx := allP_mem h π (by rw [← ho]; exact hπ) x
    rw [hy] at hx
    cases hseq : seqS (evOp P O) ops π (tin.enc n x) with
    | none => rw [show opsOf (Code.region id ops true) = ops from rfl, hseq] at hx; cases hx
    | some st' =>
      rw [show opsOf (Code.region id ops true) = ops from rfl, hseq] at hx
      have hx : decAt n outs .normal st' = some y := hx
      refine ⟨st', hseq, fun a' w' hs2 => ?_⟩
      obtain ⟨e, hd⟩ := decAt_ok hx
      have := decOuts_sim (G := G) (ex := .normal) (a := a') (w := w') hd ⟨rfl, hs2⟩
      rw [e] at this
      exact hq _ _ _ this
  · cases hc
end Go.Ev

namespace Go.Ev
set_option linter.unusedSimpArgs false
set_option linter.unusedVariables false
/-! ### functions of the library that hand out a row of bytes of their own -/
theorem fresh_row {G : Base} {ι : Loci} {ok : Nat → Prop} {st : St} {a : Act} {w w' : World} (hs : SimI G ι ok st a w) (hb : Go.RowKit.Below w.heap.size w w') {e : TypeId} (he : e = u8T) {v : Value} {l : List Int} (hr : w'.ownsRow w.heap.size e 1 v l.length (l.map (Value.int .u8))) :
    ∃ ι', SimI G ι' ok (newRowSt st (.I .u8 l)) a w' ∧ Rep w' ok G.B ι' (.own st.nk) v := by
  have hs' : SimI G ι ok st a w' := hs.grow ⟨hb.os, hb.tape, hb.output, hb.size, hb.block⟩
  obtain ⟨h1, h2⟩ := hr
  rcases h2 with ⟨rfl, h0⟩ | ⟨g, cap, cur, rfl, g1, g2, g3, g4, g5, g6⟩
  · have : l = [] := List.length_eq_zero_iff.1 h0
    subst this
    have := hs'.nilRow (.I .u8)
    exact ⟨_, this, .own0 (L := ⟨0, 0, 0, 0⟩) (by simp) rfl rfl⟩
  · have hsz : cur.size = cap := by simpa using g5
    have htake : cur.toList.take l.length = l.map (Value.int .u8) := by simpa using g6
    have hget : ∀ i, i < l.length → cur.getD i undef = .int .u8 (l.getD i 0) := by
      intro i hi
      have hc : i < cur.size := by omega
      have := congrArg (fun q => q[i]?) htake
      simp only [List.getElem?_take, if_pos hi, Array.getElem?_toList, List.getElem?_map] at this
      rw [Array.getD_eq_getD_getElem?, this, List.getElem?_eq_getElem hi]
      simp [List.getD_eq_getElem?_getD, List.getElem?_eq_getElem hi]
    have hL : ObjOK w' ok G.B (ι.set st.nk ⟨g, 0, l.length, cap⟩) st.nk (.row true (.I .u8 l)) := by
      refine ⟨⟨g, 0, l.length, cap⟩, Loci.set_same _ _ _, rfl, g3, fun _ => ⟨cur, e, (0, 0), g2, fun _ => ⟨.inl rfl, he⟩, (fun h => by cases h), by simp [Lst.sz, hsz], ?_⟩⟩
      refine ⟨fun i j => cur.getD (i * 1 + j) undef, fun i j hi hj => ?_, fun i j hi hj => ?_, fun i hi => rfl⟩
      · have hi : i < l.length := hi
        have hj : j = 0 := by have : j < 1 := hj; omega
        subst hj
        unfold World.cell?
        simp only [g2, Option.isSome_none, Bool.false_eq_true, if_false, Lst.sz, Nat.zero_add]
        have hc : i * 1 + 0 < cur.size := by omega
        rw [Array.getD_eq_getD_getElem?, Array.getElem?_eq_getElem hc]; rfl
      · have hi : i < l.length := hi
        have hj : j = 0 := by have : j < 1 := hj; omega
        subst hj
        show Rep _ _ _ _ (.v (.int .u8 (l.getD i 0))) (cur.getD (i * 1 + 0) undef)
        rw [Nat.mul_one, Nat.add_zero, hget i hi]; exact .v _
    refine ⟨_, hs'.newKey hL (fun k₂ o₂ L₂ hk₂ ho₂ hl₂ hc₂ e₂ => ?_) ⟨fun hok => ?_, .inr ?_⟩, ?_⟩
    · have := obj_block (hs.objs _ _ hk₂) hl₂ hc₂ ho₂
      have e₂ : L₂.b = g := e₂
      omega
    · have := hs.oklt _ hok
      have : g < w.heap.size := this
      omega
    · have := hs.heap
      show G.N ≤ g
      omega
    · by_cases hc : 0 < cap
      · exact .own (L := ⟨g, 0, l.length, cap⟩) (Loci.set_same _ _ _) hc
      · have h0 : l.length = 0 := by omega
        have hc0 : cap = 0 := by omega
        have := Rep.own0 (w := w') (ok := ok) (B := G.B) (ι := ι.set st.nk ⟨g, 0, l.length, cap⟩) (k := st.nk) (L := ⟨g, 0, l.length, cap⟩) (a := some ⟨g, 0, none⟩) (Loci.set_same _ _ _) hc0 h0
        rw [h0, hc0]; rw [h0, hc0] at this; exact this
def bytesLst (st : St) : AV → Option (List Int)
  | .nils => some []
  | x => match sliceLst st x with
    | some (.I .u8 l) => some l
    | _ => none
/-- bytes.Clone -/
def cfClone {R : Type} : CallF R := fun args st K => match args with
  | [x] => match bytesLst st x with
    | some l => bif Nat.ble l.length 140737488355328 then K .normal (.own st.nk) (newRowSt st (.I .u8 l)) else none
    | none => none
  | _ => none
theorem cfClone_ok {R : Type} {P : Program} {f : FuncId} {e : TypeId} (he : e = u8T)
    (hA : ∀ (a : Addr) (n c : Nat) (xs : List Int) (w : World), xs.length = n → n ≤ 140737488355328 → (∀ i, i < n → w.cell? (a.add i) = some (.int .u8 (xs.getD i 0))) →
      Calls P f #[.slice (some a) n c] w fun e' w' => ∃ v', e' = .returned v' ∧ w'.ownsRow w.heap.size e 1 v' n (xs.map (Value.int .u8)) ∧ v' ≠ .slice none 0 0 ∧ Go.RowKit.Below w.heap.size w w')
    (hN : ∀ (n c : Nat) (w : World), Calls P f #[.slice none n c] w fun e' w' => e' = .returned (.slice none 0 0) ∧ w' = w) : CFOK (R := R) P f cfClone := by
  intro args st K r h
  unfold cfClone at h
  split at h
  · rename_i x
    split at h
    · rename_i l hl
      obtain ⟨hc, h⟩ := cond_none h
      have hbig : l.length ≤ 140737488355328 := Nat.le_of_ble_eq_true hc
      refine ⟨.normal, .own st.nk, newRowSt st (.I .u8 l), ?_, h⟩
      intro G ι ok a w cargs hs hsz hreps
      have hx : Rep w ok G.B ι x (cargs.getD 0 undef) := hreps 0 (by simp)
      have hca : cargs = #[cargs.getD 0 undef] := by
        have : cargs.size = 1 := hsz
        apply Array.ext
        · simp [this]
        · intro i h1 h2
          have : i = 0 := by omega
          subst this
          simp [Array.getD_eq_getD_getElem?, h1]
      rw [hca]
      generalize cargs.getD 0 undef = v at hx
      have nil : ∀ n c, v = .slice none n c → l = [] → Calls P f #[v] w fun e' w' => ∃ cv ι' ok', EndK .normal e' cv ∧ SimI G ι' ok' (newRowSt st (.I .u8 l)) a w' ∧ Rep w' ok' G.B ι' (.own st.nk) cv := by
        intro n c hv hl0
        subst hv; subst hl0
        refine (hN n c w).mono fun e' w' ⟨h1, h2⟩ => ?_
        subst h2
        exact ⟨_, _, ok, h1, hs.nilRow (.I .u8), .own0 (L := ⟨0, 0, 0, 0⟩) (by simp) rfl rfl⟩
      have other : ∀ (hsl : sliceLst st x = some (.I .u8 l)), Calls P f #[v] w fun e' w' => ∃ cv ι' ok', EndK .normal e' cv ∧ SimI G ι' ok' (newRowSt st (.I .u8 l)) a w' ∧ Rep w' ok' G.B ι' (.own st.nk) cv := by
        intro hsl
        obtain ⟨p, c, e1, e2, e3⟩ := sliceLst_ok hs hx hsl
        cases p with
        | none =>
          by_cases h0 : 0 < l.length
          · obtain ⟨b, o, hp, _⟩ := e3 h0; cases hp
          · exact nil _ c e1 (List.length_eq_zero_iff.1 (by omega))
        | some ad =>
          rw [e1]
          refine (hA ad l.length c l w rfl hbig (fun i hi => ?_)).mono fun e' w' hh => ?_
          · obtain ⟨b, o, hp, hrow⟩ := e3 (by show 0 < l.length; omega)
            injection hp with hp; subst hp
            obtain ⟨f', f1, f2⟩ := row_cells hrow (by simp [Lst.sz])
            have h1 := f1 i (by simp [Lst.length, Lst.sz]; exact hi)
            have h2 := f2 i 0 hi (by simp [Lst.sz])
            simp only [Lst.sz, Nat.mul_one, Nat.add_zero] at h2
            have h3 : Rep w ok G.B (fun _ => none) (.v (.int .u8 (l.getD i 0))) (f' i) := h2
            rw [addr_add, h1, rep_v_inv h3]
          · obtain ⟨v', h1, h2, h3, h4⟩ := hh
            obtain ⟨ι', g1, g2⟩ := fresh_row hs h4 he h2
            exact ⟨v', ι', ok, h1, g1, g2⟩
      unfold bytesLst at hl
      split at hl
      · injection hl with hl; subst hl
        cases hx
        exact nil 0 0 rfl rfl
      · split at hl
        · rename_i hsl
          injection hl with hl; subst hl
          exact other hsl
        · cases hl
    · cases h
  · cases h
end Go.Ev

namespace Go.Ev
set_option linter.unusedSimpArgs false
set_option linter.unusedVariables false
/-! ### a region that draws its order, by a plan: reads first, calls that only make new things count as new things -/
def GOK {R : Type} (P : Program) (O : FuncId → Option (CallF R)) : Prop :=
  ∀ f cf, O f = some cf → (∃ fnc, P.funcs[f]? = some fnc ∧ fnc.body.isNone = false ∧ (fnc.name == "runtime.NumGoroutine") = false) ∧
    ∀ args st K r, cf args st K = some r → ∃ xk v st', CRunsG P True f args st xk v st' ∧ K xk v st' = some r
theorem GOK.nil {R : Type} {P : Program} : GOK (R := R) P noO := fun f cf h => by cases h
theorem GOK.cons {R : Type} {P : Program} {g : FuncId} {cf : CallF R} {O : FuncId → Option (CallF R)} (hb : hasBody P g = true)
    (hc : ∀ args st K r, cf args st K = some r → ∃ xk v st', CRunsG P True g args st xk v st' ∧ K xk v st' = some r) (hO : GOK P O) : GOK P (consO g cf O) := by
  intro f cf' h
  unfold consO at h
  cases hf : Nat.beq f g <;> rw [hf] at h
  · exact hO f cf' h
  · have := Nat.eq_of_beq_eq_true hf; subst this
    injection h with h; subst h
    refine ⟨?_, hc⟩
    unfold hasBody at hb
    split at hb
    · rename_i fnc hfn
      rw [Bool.and_eq_true] at hb
      exact ⟨fnc, hfn, by simpa using hb.1, by simpa using hb.2⟩
    · cases hb
theorem crunZ_grow {R : Type} {P : Program} {f : FuncId} {na : Nat} {tin : Tmpl} {outs : Outs} {fn : tin.T → Option (ESum outs)} (h : CallOK P f na tin outs fn) (ht : tagLive tin = true) (ho : tin.objs = []) :
    ∀ args st K r, crunZ (R := R) na tin outs fn args st K = some r → ∃ xk v st', CRunsG P True f args st xk v st' ∧ K xk v st' = some r := by
  intro args st K r hr
  obtain ⟨xk, v, st', h1, h2⟩ := crun_okG (R := R) h ht _ _ _ _ hr
  refine ⟨xk, v, st', fun G ι ok a w cargs hs hsz hrep => ?_, h2⟩
  obtain ⟨e1, ok', q1, q2⟩ := frzA_ok tin.ts args st hs hrep
  exact (h1 G ι ok' a w cargs q1 (by rw [hsz, e1]) (fun i hi => q2 i (by rw [← e1]; exact hi))).mono fun e w' hh => ⟨hh.1, fun _ => hh.2 ho⟩
def isGC (gf : List FuncId) (o : Oper) : Bool := match o.op with
  | .call ⟨.value (.func f), _, _⟩ => gf.any fun g => Nat.beq f g
  | _ => false
def clsG (P : Program) (gf : List FuncId) (o : Oper) : Nat := bif isGC gf o then 2 else clsOf P o
def evGCall {R : Type} (O : FuncId → Option (CallF R)) (o : Oper) (st : St) (K : X → St → Option R) : Option R :=
  match o.op with
  | .call ⟨fo, args, _⟩ => match fo with
    | .value fo => match opnd st fo, opnds st args.toList with
      | some (.fn (.func f) first caps), some xs => match O f with
        | some cf => cf (first ++ (xs ++ caps)) st fun k v st' => match k with
          | .normal => fin o st' K v
          | _ => none
        | none => none
      | _, _ => none
    | _ => none
  | _ => none
def evWG {R : Type} (P : Program) (E : EvO R) (GO : FuncId → Option (CallF R)) (gf : List FuncId) (o : Oper) (st : St) (K : X → St → Option R) : Option R :=
  bif isGC gf o then evGCall GO o st K else evW P E o st K
def WStepC (P : Program) (c : Nat) (o : Oper) (st st₁ : St) : Prop := ∀ G ι ok a w, SimI G ι ok st a w → ∀ (K : Act → World → Prop), (∀ a' w', Sim G st₁ a' w' → K a' w') →
  (if c ≤ 1 then ∃ v, (∀ w', (c = 0 ∨ Grown w w') → (execOp a.eval o).run P w' = .ok (.value v) w') ∧ K (a.put o.dst v) w
   else o.wp P a w (fun a' w' => (c = 2 → Grown w w') ∧ K a' w') NoQ)
theorem evWG_ok {R : Type} {P : Program} {E : EvO R} {GO : FuncId → Option (CallF R)} {gf : List FuncId} (hE : EOK P E) (hG : GOK P GO) {o : Oper} {st : St} {K : X → St → Option R} {r : R} (h : evWG P E GO gf o st K = some r) :
    ∃ x st₁, (x = .normal → WStepC P (clsG P gf o) o st st₁) ∧ K x st₁ = some r := by
  unfold evWG at h
  cases hg : isGC gf o <;> rw [hg] at h
  · have hc : clsG P gf o = clsOf P o := by unfold clsG; rw [hg]; rfl
    rw [hc]
    exact evW_ok hE h
  · have hc : clsG P gf o = 2 := by unfold clsG; rw [hg]; rfl
    rw [hc]
    have h : evGCall GO o st K = some r := h
    unfold evGCall at h
    split at h
    · rename_i fo0 args ats ho
      split at h
      · rename_i fo
        split at h
        · rename_i f first caps xs hfo hxs
          split at h
          · rename_i cf hcf
            obtain ⟨⟨fnc, hf1, hf2, hf3⟩, hok⟩ := hG f cf hcf
            obtain ⟨xk, v, st', hr, hk⟩ := hok _ _ _ _ h
            split at hk
            · obtain ⟨h3, h4⟩ := fin_some hk
              refine ⟨.normal, _, fun _ G ι ok a w hs Kf hK => ?_, h4⟩
              rw [if_neg (by omega)]
              obtain ⟨cargs, c1, c2, c3⟩ := call_enter (P := P) ho hs hfo hxs hf1 hf2 hf3
              unfold Oper.wp
              rw [c1 w]
              refine (hr G ι ok a w cargs hs c2 c3).mono fun e w' hp => ?_
              obtain ⟨⟨cv, ι', ok', he, hs2, hrep⟩, hgr⟩ := hp
              have he : e = .returned cv := he
              subst he
              exact ⟨fun _ => hgr trivial, hK _ _ ⟨ι', ok', hs2.put h3 hrep⟩⟩
            · cases hk
          · cases h
        · cases h
      · cases h
    · cases h
/-- the operations of a plan, one behind the other -/
def evPlan {R : Type} (P : Program) (E : EvO R) (GO : FuncId → Option (CallF R)) (gf : List FuncId) (ops : Array Oper) : List Nat → St → (St → Option R) → Option R
  | [], st, K => K st
  | i :: r, st, K => match ops[i]? with
    | some o => match o.guard with
      | none => evWG P E GO gf o st fun x st => match x with
        | .normal => evPlan P E GO gf ops r st K
        | _ => none
      | some _ => none
    | none => none
def freeP (P : Program) (gf : List FuncId) (ops : Array Oper) (m : List Nat) (listed : Array Bool) (k : Nat) : Bool :=
  match ops[k]? with
  | some ok => (List.range ops.size).all fun j => Nat.beq j k || (listed.getD j true || (Nat.testBit (m.getD j 0) k || (Nat.ble (clsG P gf ok) 1 && (match ops[j]? with
    | some oj => ok.apart ops oj && (Nat.beq (clsG P gf ok) 0 || Nat.ble (clsG P gf oj) 2)
    | none => false))))
  | none => false
def planP (P : Program) (gf : List FuncId) (ops : Array Oper) (m : List Nat) : List Nat → Array Bool → Bool
  | [], listed => (Region.ready .any ops listed).isEmpty
  | k :: r, listed => (Region.ready .any ops listed).contains k && (freeP P gf ops m listed k && planP P gf ops m r (listed.setIfInBounds k true))
def gsP (P : Program) (gf : List FuncId) (ops : Array Oper) (j : Nat) : Bool := match ops[j]? with
  | some oj => Nat.ble (clsG P gf oj) 2
  | none => false
theorem evPlan_ok {R : Type} {P : Program} {E : EvO R} {GO : FuncId → Option (CallF R)} {gf : List FuncId} {ops : Array Oper} {m : List Nat} (hE : EOK P E) (hG : GOK P GO) (hs : Region.noSelect ops = true) (hB : waitB .any ops m = true) :
    ∀ (l : List Nat) (listed : Array Bool) (st : St) (K : St → Option R) (r : R), evPlan P E GO gf ops l st K = some r → HeadInv .any ops ops.size listed → planP P gf ops m l listed = true →
      ∃ st', K st' = some r ∧ ∀ G a w (Q : Act → World → Prop), Sim G st a w → (∀ a w, Sim G st' a w → Q a w) → wpAnyG P .any ops (gsP P gf ops) Q l.length listed a w
  | [], listed, st, K, r, h, inv, hp => ⟨st, h, fun G a w Q hsim hQ => ⟨by simpa [planP] using hp, hQ a w hsim⟩⟩
  | k :: l, listed, st, K, r, h, inv, hp => by
    simp only [planP, Bool.and_eq_true] at hp
    obtain ⟨hr, hf, hp'⟩ := hp
    have hr : k ∈ Region.ready .any ops listed := by simpa using hr
    unfold evPlan at h
    split at h
    · rename_i o h0
      split at h
      · rename_i hg
        obtain ⟨x, st₁, hstep, hk⟩ := evWG_ok hE hG h
        have hx : x = .normal := by
          cases x <;> first | rfl | cases hk
        subst hx
        have hstep := hstep rfl
        have hklt : k < ops.size := (Array.getElem?_eq_some_iff.1 h0).1
        have inv' := inv.set hr hklt
        obtain ⟨st', hK, ih⟩ := evPlan_ok hE hG hs hB l (listed.setIfInBounds k true) st₁ K r hk inv' hp'
        refine ⟨st', hK, fun G a w Q hsim hQ => ?_⟩
        have ih := fun a' w' h' => ih G a' w' Q h' hQ
        unfold freeP at hf
        rw [h0] at hf
        simp only at hf
        have hf := fun j (hj : j < ops.size) => List.all_eq_true.1 hf j (List.mem_range.2 hj)
        have hw : Region.wanted o (yielded ops a.tmps) = true := by unfold Region.wanted; rw [hg]
        obtain ⟨ι, ok, hS⟩ := hsim
        have hst := hstep G ι ok a w hS (wpAnyG P .any ops (gsP P gf ops) Q l.length (listed.setIfInBounds k true)) ih
        by_cases hc : clsG P gf o ≤ 1
        · rw [if_pos hc] at hst
          obtain ⟨v, h1, h2⟩ := hst
          have hy : YG P ops (Nat.beq (clsG P gf o) 0) o v a w := .inl ⟨hw, fun w' hw' => h1 w' (hw'.imp (fun h => Nat.eq_of_beq_eq_true h) id)⟩
          refine wpAnyG_first hB h0 (Region.noSelect_spec hs) l.length listed a w inv (fun j oj hj hji hun hno => ?_) hr hy h2
          have hjlt : j < ops.size := (Array.getElem?_eq_some_iff.1 hj).1
          have := hf j hjlt
          rw [hun, hno, hj] at this
          simp only [Bool.or_eq_true, Bool.and_eq_true, Bool.false_eq_true, false_or, or_false] at this
          rcases this with this | ⟨_, h1, h2⟩
          · exact absurd (Nat.eq_of_beq_eq_true this) hji
          · refine ⟨h1, h2.imp id (fun h => ?_)⟩
            unfold gsP; rw [hj]; exact h
        · rw [if_neg hc] at hst
          refine wpAnyG_only hB inv (fun j hj hji hun => ?_) hr ?_
          · have := hf j hj
            have hc' : Nat.ble (clsG P gf o) 1 = false := by
              cases hb : Nat.ble (clsG P gf o) 1 with
              | false => rfl
              | true => exact absurd (Nat.le_of_ble_eq_true hb) hc
            rw [hun, hc'] at this
            simp only [Bool.or_eq_true, Bool.false_and, Bool.or_false, Bool.false_eq_true, false_or, or_false] at this
            rcases this with this | this
            · exact absurd (Nat.eq_of_beq_eq_true this) hji
            · exact this
          · unfold gOp
            rw [h0]
            simp only
            rw [if_pos hw]
            refine wp_weak (fun a' w' h' => ⟨fun hg => h'.1 ?_, h'.2⟩) hst
            unfold gsP at hg; rw [h0] at hg
            have := Nat.le_of_ble_eq_true hg
            omega
      · cases h
    · cases h
def drawBy {R : Type} (P : Program) (E : EvO R) (GO : FuncId → Option (CallF R)) (gf : List FuncId) (π : List Nat) (ops : Array Oper) : St → (X → St → Option R) → Option R := fun st K =>
  bif P.follows .mixedOrders && (Region.noSelect ops && (waitB .any ops (masksOf ops) && (planP P gf ops (masksOf ops) π (Array.replicate ops.size false) && Nat.beq π.length ops.size))) then evPlan P E GO gf ops π st (K .normal) else none
theorem drawBy_ok {R : Type} {P : Program} {E : EvO R} {GO : FuncId → Option (CallF R)} {gf : List FuncId} {π : List Nat} (hE : EOK P E) (hG : GOK P GO) {id : Nat} {ops : Array Oper} : LOK (R := R) P (drawBy P E GO gf π ops) (.region id ops true) := by
  intro st K r h
  obtain ⟨hc, h⟩ := cond_none h
  simp only [Bool.and_eq_true] at hc
  obtain ⟨h1, h2, h3, h4, h5⟩ := hc
  obtain ⟨st', hK, hw⟩ := evPlan_ok hE hG h2 h3 π _ st _ r h ⟨by simp, fun j oj _ hl => (by rw [getD_replicate_false] at hl; cases hl), fun t ht ht' => absurd ht' (by omega)⟩ h4
  refine ⟨.normal, st', fun G a w Q hs hq => ?_, hK⟩
  refine wp_region_any h1 (wpAny_of_G (gs := gsP P gf ops) (Q := fun a w => Q .normal a w) (fun _ _ h => h) _ _ _ _ ?_)
  have hs' : Sim G st a { w with drawn := w.drawn + 1 } := by
    obtain ⟨ι, ok, hs⟩ := hs
    exact ⟨ι, ok, hs.grow ⟨rfl, rfl, rfl, Nat.le_refl _, fun _ _ => rfl⟩⟩
  have := hw G a _ (fun a w => Q .normal a w) hs' (fun a' w' h' => hq .normal a' w' ⟨rfl, h'⟩)
  rw [Nat.eq_of_beq_eq_true h5] at this
  exact this
def autoPlan (P : Program) (gf : List FuncId) (ops : Array Oper) (m : List Nat) : Nat → Array Bool → List Nat
  | 0, _ => []
  | f + 1, listed => match (Region.ready .any ops listed).find? (freeP P gf ops m listed) with
    | some i => i :: autoPlan P gf ops m f (listed.setIfInBounds i true)
    | none => []
def drawAuto {R : Type} (P : Program) (E : EvO R) (GO : FuncId → Option (CallF R)) (gf : List FuncId) (ops : Array Oper) : St → (X → St → Option R) → Option R :=
  drawBy P E GO gf (autoPlan P gf ops (masksOf ops) ops.size (Array.replicate ops.size false)) ops
theorem LH.drawA {R : Type} {P : Program} {E : EvO R} {GO : FuncId → Option (CallF R)} {gf : List FuncId} (hE : EOK P E) (hG : GOK P GO) {body : Code} {L : EvL R} {q : Nat} (h : isDrawAt q body = true) (hL : LH P body L) :
    LH P body (consL q (drawAuto P E GO gf (drawOps q body)) L) := by
  unfold isDrawAt at h
  split at h
  · rename_i id ops hf
    have e : drawOps q body = ops := by unfold drawOps; rw [hf]
    rw [e]
    exact LH.cons hf (drawBy_ok hE hG) hL
  · cases h
theorem LH.drawB {R : Type} {P : Program} {E : EvO R} {GO : FuncId → Option (CallF R)} {gf : List FuncId} {π : List Nat} (hE : EOK P E) (hG : GOK P GO) {body : Code} {L : EvL R} {q : Nat} (h : isDrawAt q body = true) (hL : LH P body L) :
    LH P body (consL q (drawBy P E GO gf π (drawOps q body)) L) := by
  unfold isDrawAt at h
  split at h
  · rename_i id ops hf
    have e : drawOps q body = ops := by unfold drawOps; rw [hf]
    rw [e]
    exact LH.cons hf (drawBy_ok hE hG) hL
  · cases h
end Go.Ev

namespace Go.Ev
set_option linter.unusedSimpArgs false
set_option linter.unusedVariables false
/-! ### strings.Builder: copyCheck and String -/
theorem liesAt_bytesO {P : Program} {e : TypeId} (hc : P.cellsOf e = 1) (count o n : Nat) (hn : o + n ≤ count) : liesAt P P.depth e count o e n = true := by
  have hd : P.depth = (2 * (P.types.size + Made.depth) + 1) + 1 := rfl
  rw [hd]
  simp only [liesAt, Bool.or_eq_true]
  left
  rw [hd]
  simp [Go.rowAt, hc, hn, sameLayout, Nat.mod_one]
theorem run_loadInts {P : Program} {w : World} : ∀ (l : List Int) (a : Addr) (acc : ByteArray), (∀ j n, l[j]? = some n → w.cell? (a.add j) = some (.int .u8 n)) →
    (loadBytes a acc l.length).run P w = .ok ⟨acc.data ++ (l.map fun n => UInt8.ofNat n.toNat).toArray⟩ w
  | [], a, acc, _ => by simp [loadBytes]
  | x :: l, a, acc, h => by
    have h0 : w.cell? a = some (.int .u8 x) := by
      have := h 0 x rfl
      simpa [Addr.add] using this
    have ih := run_loadInts (P := P) l (a.add 1) (acc.push (UInt8.ofNat x.toNat)) (fun j y hy => by
      have := h (j + 1) y (by simpa using hy)
      have e : (a.add 1).add j = a.add (j + 1) := by
        unfold Addr.add
        by_cases hj : j = 0
        · subst hj; simp
        · simp [hj]; omega
      rw [e]; exact this)
    have hx : (x.toNat).toUInt8 = UInt8.ofNat x.toNat := rfl
    simp only [List.length_cons, loadBytes, Sem.run_bind, run_load, h0, Result.andThen, hx]
    rw [ih]
    congr 1
    apply ByteArray.ext
    simp [ByteArray.push]
theorem run_unsafeStringI {P : Program} (w : World) (pt it ty e : TypeId) (hp : P.underlying pt = some (.pointer e)) (hc : P.cellsOf e = 1) (g o cells : Nat) (hsh : w.shape? g = some (e, cells)) (l : List Int) (h0 : l ≠ []) (hn : o + l.length ≤ cells) (h63 : l.length ≤ 9223372036854775807)
    (hcell : ∀ j n, l[j]? = some n → w.cell? ((⟨g, o, none⟩ : Addr).add j) = some (.int .u8 n)) :
    (Builtin.unsafeString_ #[pt, it] ty #[.pointer (some ⟨g, o, none⟩), .int .i64 l.length]).run P w = .ok (.string (strOf l)) (w.freeze ⟨g, o, none⟩ l.length) := by
  have hl : l.length ≠ 0 := by simpa using h0
  have hlb := run_loadInts (P := P) l ⟨g, o, none⟩ .empty hcell
  have hlies := liesAt_bytesO (P := P) hc (cells / P.cellsOf e) o l.length (by rw [hc]; simpa using hn)
  have h63' : ¬ (9223372036854775807 : Int) < (l.length : Int) := by omega
  obtain ⟨A, B, C, hdef⟩ : ∃ (A B : Sem PUnit) (C : Sem Value), Builtin.unsafeString_ #[pt, it] ty #[.pointer (some ⟨g, o, none⟩), .int .i64 l.length] =
      (do
        let n ← asInt (.int .i64 l.length)
        if n < 0 then A
        if n > IntKind.i64.max then B
        if n = 0 then pure (.string .empty)
        else if ← variablesAt ⟨g, o, none⟩ (← elemOf pt) n.toNat then do
          let s ← loadBytes ⟨g, o, none⟩ .empty n.toNat
          freeze ⟨g, o, none⟩ n.toNat
          pure (.string s)
        else C) := ⟨_, _, _, rfl⟩
  rw [hdef]
  have hmax : IntKind.i64.max = 9223372036854775807 := rfl
  have hneg : ¬ (l.length : Int) < 0 := by omega
  simp [asInt, asIntOf, hmax, h63', hneg, hl, variablesAt, hsh, elemOf, run_underlying hp, hlies, hlb, strOf]
/-- what the walks of copyCheck have shown -/
structure CopyOK (P : Program) (f : FuncId) (T : TypeId) : Prop where
  used : ∀ (b : Nat) (w : World), w.cell? ⟨b, 0, none⟩ = some (.pointer (some ⟨b, 0, none⟩)) → Calls P f #[.pointer (some ⟨b, 0, none⟩)] w fun e w' => e = .returned (.tuple #[]) ∧ w' = w
  fresh : ∀ (b : Nat) (w : World), w.cell? ⟨b, 0, none⟩ = some (.pointer none) → w.shape? b = some (T, 2) → w.frozen? ⟨b, 0, none⟩ = false →
    Calls P f #[.pointer (some ⟨b, 0, none⟩)] w fun e w' => e = .returned (.tuple #[]) ∧ w' = w.setCell ⟨b, 0, none⟩ (.pointer (some ⟨b, 0, none⟩))
def cfCopy {R : Type} (T : TypeId) : CallF R := fun args st K => match args with
  | [.ptr k off] => match look st.ar k with
    | some (.cells [.bself k' o' t, x]) => bif Nat.beq off 0 && (Nat.beq o' 0 && (Nat.beq k k' && Nat.beq t T)) then K .normal (.tuple []) { st with ar := (k, .cells [.bself k' o' t, x]) :: st.ar } else none
    | _ => none
  | _ => none
theorem args1 {cargs : Array Value} (hsz : cargs.size = 1) : cargs = #[cargs.getD 0 undef] := by
  apply Array.ext
  · simp [hsz]
  · intro i h1 h2
    have : i = 0 := by omega
    subst this
    simp [Array.getD_eq_getD_getElem?, h1]
theorem cfCopy_ok {R : Type} {P : Program} {f : FuncId} {T : TypeId} (hA : CopyOK P f T) : CFOK (R := R) P f (cfCopy T) := by
  intro args st K r h
  unfold cfCopy at h
  split at h
  · rename_i k off
    split at h
    · rename_i k' o' t x hk
      obtain ⟨hc, hh⟩ := cond_none h
      clear h
      simp only [Bool.and_eq_true] at hc
      have e1 := beq_eq hc.1; subst e1
      have e2 := beq_eq hc.2.1; subst e2
      have e3 := beq_eq hc.2.2.1; subst e3
      have e4 := beq_eq hc.2.2.2; subst e4
      refine ⟨.normal, .tuple [], _, ?_, hh⟩
      intro G ι ok a w cargs hs hsz hreps
      have hx : Rep w ok G.B ι (.ptr k 0) (cargs.getD 0 undef) := hreps 0 (by simp)
      rw [args1 hsz]
      generalize cargs.getD 0 undef = v at hx
      obtain ⟨L, vs, t', h1, ⟨h2, h3⟩, h4, h5, h6⟩ := hs.objs _ _ hk
      cases hx with
      | ptr g =>
        rw [h1] at g; injection g with g; subst g
        have hv0 := h6 0 (by simp)
        have hv1 := h6 1 (by simp)
        have hs2 : vs.size = 2 := h5
        have ht' : t' = t := by
          have : Rep w ok G.B ι (.bself k 0 t) (vs.getD 0 undef) := hv0
          generalize vs.getD 0 undef = q at this
          cases this with
          | bself a1 a2 a3 a4 => rw [h1] at a1; injection a1 with a1; subst a1; exact h3.symm.trans a3
        subst ht'
        have hcell : w.cell? ⟨L.b, 0, none⟩ = some (vs.getD 0 undef) := by
          unfold World.cell?
          simp only [h4]
          have : 0 < vs.size := by omega
          simp [Array.getD_eq_getD_getElem?, this]
        have hv0' : Rep w ok G.B ι (.bself k 0 t') (vs.getD 0 undef) := hv0
        generalize hq : vs.getD 0 undef = q at hv0' hcell
        cases hv0' with
        | bself a1 a2 a3 a4 =>
          rw [h1] at a1; injection a1 with a1; subst a1
          rcases a4 with e | e
          · subst e
            have hsh : w.shape? L.b = some (t', 2) := by simp [World.shape?, h4, hs2]
            have hfz : w.frozen? ⟨L.b, 0, none⟩ = false := frozen_free h4 (.inl rfl) (by omega)
            refine (hA.fresh L.b w hcell hsh hfz).mono fun e' w' hh => ?_
            obtain ⟨g1, g2⟩ := hh
            subst g2
            have hheap : (w.setCell ⟨L.b, 0, none⟩ (.pointer (some ⟨L.b, 0, none⟩))).heap[L.b]? = some (.cells (vs.setIfInBounds 0 (.pointer (some ⟨L.b, 0, none⟩))) t' (0, 0)) := by
              simp only [World.setCell, Array.getElem?_modify, if_pos, h4, Option.map_some]; rfl
            have hoth : ∀ b, b ≠ L.b → (w.setCell ⟨L.b, 0, none⟩ (.pointer (some ⟨L.b, 0, none⟩))).heap[b]? = w.heap[b]? := by
              intro b hb
              simp only [World.setCell, Array.getElem?_modify]
              rw [if_neg (fun e => hb e.symm)]
            have hap := hs.apart k _ L hk rfl h1 (by omega)
            have hmem : ∀ b, ok b → (w.setCell ⟨L.b, 0, none⟩ (.pointer (some ⟨L.b, 0, none⟩))).heap[b]? = w.heap[b]? := fun b hb => hoth b (fun e => hap.1 (e ▸ hb))
            refine ⟨_, ι, ok, g1, hs.write (o' := .cells [.bself k 0 t', x]) hk rfl h1 (by omega) rfl rfl rfl (by simp [World.setCell]) hoth ?_, .tuple (by rfl) (fun i hi => absurd hi (Nat.not_lt_zero _))⟩
            refine ⟨L, _, t', h1, ⟨h2, h3⟩, hheap, by simp [hs2], fun i hi => ?_⟩
            match i, hi with
            | 0, _ =>
              refine .bself h1 h2 h3 (.inr ?_)
              have : 0 < vs.size := by omega
              simp [Array.getD_eq_getD_getElem?, this]
            | 1, _ =>
              have e5 : (vs.setIfInBounds 0 (Value.pointer (some ⟨L.b, 0, none⟩))).getD 1 undef = vs.getD 1 undef := by
                simp [Array.getD_eq_getD_getElem?, Array.getElem?_setIfInBounds]
              rw [e5]
              exact hv1.mono hmem (fun _ h => h) (fun _ _ h => h)
          · subst e
            refine (hA.used L.b w hcell).mono fun e' w' hh => ?_
            obtain ⟨g1, g2⟩ := hh
            subst g2
            refine ⟨_, ι, ok, g1, hs.write (o' := .cells [.bself k 0 t', x]) hk rfl h1 (by omega) rfl rfl rfl rfl (fun _ _ => rfl) ⟨L, vs, t', h1, ⟨h2, h3⟩, h4, h5, h6⟩, .tuple (by rfl) (fun i hi => absurd hi (Nat.not_lt_zero _))⟩
    · cases h
  · cases h
/-- what the walks of String have shown -/
structure StrOK (P : Program) (f : FuncId) : Prop where
  row : ∀ (b g o cap cells : Nat) (l : List Int) (w : World), l ≠ [] → w.cell? ⟨b, 1, none⟩ = some (.slice (some ⟨g, o, none⟩) l.length cap) → cap ≠ 0 → w.shape? g = some (u8T, cells) → o + l.length ≤ cells → l.length ≤ 9223372036854775807 →
    (∀ j n, l[j]? = some n → w.cell? ((⟨g, o, none⟩ : Addr).add j) = some (.int .u8 n)) → Calls P f #[.pointer (some ⟨b, 0, none⟩)] w fun e w' => e = .returned (.string (strOf l)) ∧ w' = w.drew.freeze ⟨g, o, none⟩ l.length
  room : ∀ (b : Nat) (a : Addr) (cap : Nat) (w : World), w.cell? ⟨b, 1, none⟩ = some (.slice (some a) 0 cap) → cap ≠ 0 → Calls P f #[.pointer (some ⟨b, 0, none⟩)] w fun e w' => e = .returned (.string ByteArray.empty) ∧ w' = w.drew
  nil : ∀ (b : Nat) (w : World), w.cell? ⟨b, 1, none⟩ = some (.slice none 0 0) → Calls P f #[.pointer (some ⟨b, 0, none⟩)] w fun e w' => e = .returned (.string ByteArray.empty) ∧ w' = w.drew
def bufKey : AV → Option Key
  | .ownN k => some k
  | .ownV k => some k
  | _ => none
theorem bufKey_ok {w : World} {ok : Nat → Prop} {B : Nat} {ι : Loci} {c : AV} {k : Key} {v : Value} (h : bufKey c = some k) (hr : Rep w ok B ι c v) : ∃ L, ι k = some L ∧ ((0 < L.cp ∧ v = .slice (some ⟨L.b, L.o, none⟩) L.n L.cp) ∨ (L.cp = 0 ∧ L.n = 0 ∧ v = .slice none 0 0)) := by
  unfold bufKey at h
  split at h
  · injection h with h; subst h
    cases hr with
    | ownN a b c => exact ⟨_, a, .inl ⟨b, rfl⟩⟩
    | ownN0 a b c => exact ⟨_, a, .inr ⟨b, c, rfl⟩⟩
  · injection h with h; subst h
    cases hr with
    | ownV a b => exact ⟨_, a, .inl ⟨b, rfl⟩⟩
    | ownV0 a b c => exact ⟨_, a, .inr ⟨b, c, rfl⟩⟩
  · cases h
def cfBStr {R : Type} : CallF R := fun args st K => match args with
  | [.ptr k off] => match look st.ar k with
    | some (.cells [c0, c1]) => match bufKey c1 with
     | some k2 => match look st.ar k2 with
      | some (.row true (.I .u8 l)) => bif Nat.beq off 0 && Nat.ble l.length 9223372036854775807 then K .normal (.v (.string (strOf l))) { st with ar := (k2, .dead) :: st.ar } else none
      | _ => none
     | none => match c1 with
      | .nils => bif Nat.beq off 0 then K .normal (.v (.string ByteArray.empty)) st else none
      | _ => none
    | _ => none
  | _ => none
theorem SimI.drew {G : Base} {ι : Loci} {ok : Nat → Prop} {st : St} {a : Act} {w : World} (hs : SimI G ι ok st a w) : SimI G ι ok st a w.drew := hs.same rfl rfl rfl rfl
theorem cfBStr_ok {R : Type} {P : Program} {f : FuncId} (hA : StrOK P f) : CFOK (R := R) P f cfBStr := by
  intro args st K r h
  unfold cfBStr at h
  split at h
  · rename_i k off
    split at h
    · rename_i c0 c1 hk
      split at h
      · rename_i k2 hbk
        split at h
        · rename_i l hk2
          obtain ⟨hc, hh⟩ := cond_none h
          clear h
          simp only [Bool.and_eq_true] at hc
          have e1 := beq_eq hc.1; subst e1
          have h63 : l.length ≤ 9223372036854775807 := Nat.le_of_ble_eq_true hc.2
          refine ⟨.normal, _, _, ?_, hh⟩
          intro G ι ok a w cargs hs hsz hreps
          have hx : Rep w ok G.B ι (.ptr k 0) (cargs.getD 0 undef) := hreps 0 (by simp)
          rw [args1 hsz]
          generalize cargs.getD 0 undef = v at hx
          obtain ⟨L, vs, t', h1, ⟨h2, h3⟩, h4, h5, h6⟩ := hs.objs _ _ hk
          obtain ⟨L2, r1, r2, r3, r4⟩ := hs.objs _ _ hk2
          cases hx with
          | ptr g =>
            rw [h1] at g; injection g with g; subst g
            have hv1 : Rep w ok G.B ι c1 (vs.getD 1 undef) := h6 1 (by simp)
            have hs2 : vs.size = 2 := h5
            have hcell : w.cell? ⟨L.b, 1, none⟩ = some (vs.getD 1 undef) := by
              unfold World.cell?
              simp only [h4]
              have : 1 < vs.size := by omega
              simp [Array.getD_eq_getD_getElem?, this]
            generalize hq : vs.getD 1 undef = q at hv1 hcell
            have hln : L2.n = l.length := r2
            obtain ⟨L3, a1, hcase⟩ := bufKey_ok hbk hv1
            rw [r1] at a1; injection a1 with a1; subst a1
            rcases hcase with ⟨a2, e⟩ | ⟨a2, a3, e⟩
            · subst e
              obtain ⟨cs, ty, fr, b1, b2, b3, b4, b5⟩ := r4 a2
              have hty : ty = u8T := (b2 rfl).2
              subst hty
              by_cases hl0 : l = []
              · subst hl0
                have e0 : L2.n = 0 := r2
                rw [e0] at hcell
                refine (hA.room L.b _ L2.cp w hcell (by omega)).mono fun e' w' hh => ?_
                obtain ⟨g1, g2⟩ := hh
                subst g2
                exact ⟨_, ι, ok, g1, hs.drew.kill k2, .v _⟩
              · have hsh : w.shape? L2.b = some (u8T, cs.size) := by simp [World.shape?, b1]
                have hcap : L2.o + L2.cp ≤ cs.size := by have b4' : L2.o + L2.cp * 1 ≤ cs.size := b4; omega
                obtain ⟨f', f1, f2⟩ := row_cells b5 (by simp [Lst.sz])
                rw [hln] at hcell
                refine (hA.row L.b L2.b L2.o L2.cp cs.size l w hl0 hcell (by omega) hsh (by omega) h63 (fun j n hj => ?_)).mono fun e' w' hh => ?_
                · have hj' : j < l.length := (List.getElem?_eq_some_iff.1 hj).1
                  have g1 := f1 j (by simp [Lst.length, Lst.sz]; exact hj')
                  have g2 := f2 j 0 hj' (by simp [Lst.sz])
                  simp only [Lst.sz, Nat.mul_one, Nat.add_zero] at g2
                  have g3 : Rep w ok G.B (fun _ => none) (.v (.int .u8 (l.getD j 0))) (f' j) := g2
                  rw [addr_add, g1, rep_v_inv g3, List.getD_eq_getElem?_getD, hj]; rfl
                · obtain ⟨g1, g2⟩ := hh
                  subst g2
                  have hne : l.length ≠ 0 := by simpa using hl0
                  have hoth : ∀ b, b ≠ L2.b → (w.drew.freeze ⟨L2.b, L2.o, none⟩ l.length).heap[b]? = w.drew.heap[b]? := by
                    intro b hb
                    unfold World.freeze
                    rw [if_neg hne]
                    simp only [Array.getElem?_modify]
                    rw [if_neg (fun e => hb e.symm)]
                  have hfr : (w.drew.freeze ⟨L2.b, L2.o, none⟩ l.length).os = w.drew.os ∧ (w.drew.freeze ⟨L2.b, L2.o, none⟩ l.length).tape = w.drew.tape ∧ (w.drew.freeze ⟨L2.b, L2.o, none⟩ l.length).output = w.drew.output ∧ (w.drew.freeze ⟨L2.b, L2.o, none⟩ l.length).heap.size = w.drew.heap.size := by
                    unfold World.freeze
                    rw [if_neg hne]
                    exact ⟨rfl, rfl, rfl, by simp⟩
                  exact ⟨_, ι, ok, g1, hs.drew.write (o' := .dead) hk2 rfl r1 a2 hfr.1 hfr.2.1 hfr.2.2.1 hfr.2.2.2 hoth trivial, .v _⟩
            · subst e
              have hl0 : l = [] := List.length_eq_zero_iff.1 (by omega)
              subst hl0
              refine (hA.nil L.b w hcell).mono fun e' w' hh => ?_
              obtain ⟨g1, g2⟩ := hh
              subst g2
              exact ⟨_, ι, ok, g1, hs.drew.kill k2, .v _⟩
        · cases h
      · split at h
        · obtain ⟨hc, hh⟩ := cond_none h
          clear h
          have e1 := beq_eq hc; subst e1
          refine ⟨.normal, _, _, ?_, hh⟩
          intro G ι ok a w cargs hs hsz hreps
          have hx : Rep w ok G.B ι (.ptr k 0) (cargs.getD 0 undef) := hreps 0 (by simp)
          rw [args1 hsz]
          generalize cargs.getD 0 undef = v at hx
          obtain ⟨L, vs, t', h1, ⟨h2, h3⟩, h4, h5, h6⟩ := hs.objs _ _ hk
          cases hx with
          | ptr g =>
            rw [h1] at g; injection g with g; subst g
            have hv1 : Rep w ok G.B ι .nils (vs.getD 1 undef) := h6 1 (by simp)
            have hs2 : vs.size = 2 := h5
            have hcell : w.cell? ⟨L.b, 1, none⟩ = some (vs.getD 1 undef) := by
              unfold World.cell?
              simp only [h4]
              have : 1 < vs.size := by omega
              simp [Array.getD_eq_getD_getElem?, this]
            generalize hq : vs.getD 1 undef = q at hv1 hcell
            cases hv1 with
            | nils =>
              refine (hA.nil L.b w hcell).mono fun e' w' hh => ?_
              obtain ⟨g1, g2⟩ := hh
              subst g2
              exact ⟨_, ι, ok, g1, hs.drew, .v _⟩
        · cases h
    · cases h
  · cases h
/-- what the walks of grow (at a nil buffer) have shown -/
structure GrowOK (P : Program) (f : FuncId) (T : TypeId) : Prop where
  grow : ∀ (b n : Nat) (w : World) (p : Value), w.heap[b]? = some (.cells #[p, .slice none 0 0] T (0, 0)) → n ≤ 281474976710656 →
    Calls P f #[.pointer (some ⟨b, 0, none⟩), .int .i64 n] w fun e w' => e = .returned (.tuple #[]) ∧ ∃ cs : Array Value, n ≤ cs.size ∧ w' = ((w.setCell ⟨b, 1, none⟩ (.slice (some ⟨w.heap.size, 0, none⟩) 0 cs.size)).alloc (.cells cs u8T)).drew.drew.drew
def cfGrow {R : Type} (T : TypeId) : CallF R := fun args st K => match args with
  | [.ptr k off, .v (.int .i64 n)] => match look st.ar k with
    | some (.cells [.bself k' o' t, .nils]) => bif Nat.beq off 0 && (Nat.beq k k' && Nat.beq t T && (Nat.blt k st.nk && (decide (0 < n) && decide (n ≤ 281474976710656)))) then
        K .normal (.tuple []) { st with nk := st.nk + 1, ar := (k, .cells [.bself k' o' t, .ownV st.nk]) :: (st.nk, .row true (.I .u8 [])) :: st.ar } else none
    | _ => none
  | _ => none
theorem args2 {cargs : Array Value} (hsz : cargs.size = 2) : cargs = #[cargs.getD 0 undef, cargs.getD 1 undef] := by
  apply Array.ext
  · simp [hsz]
  · intro i h1 h2
    match i, h2 with
    | 0, _ => simp [Array.getD_eq_getD_getElem?, h1]
    | 1, _ => simp [Array.getD_eq_getD_getElem?, h1]
theorem cfGrow_ok {R : Type} {P : Program} {f : FuncId} {T : TypeId} (hA : GrowOK P f T) : CFOK (R := R) P f (cfGrow T) := by
  intro args st K r h
  unfold cfGrow at h
  split at h
  · rename_i k off n
    split at h
    · rename_i k' o' t hk
      obtain ⟨hc, hh⟩ := cond_none h
      clear h
      simp only [Bool.and_eq_true, decide_eq_true_eq] at hc
      have e1 := beq_eq hc.1; subst e1
      have e3 := beq_eq hc.2.1.1; subst e3
      have e2 := beq_eq hc.2.1.2; subst e2
      have hlt : k < st.nk := by have := hc.2.2.1; simpa [Nat.blt_eq] using this
      have hn0 := hc.2.2.2.1
      have hn1 := hc.2.2.2.2
      refine ⟨.normal, _, _, ?_, hh⟩
      intro G ι ok a w cargs hs hsz hreps
      have hx : Rep w ok G.B ι (.ptr k 0) (cargs.getD 0 undef) := hreps 0 (by simp)
      have hy : Rep w ok G.B ι (.v (.int .i64 n)) (cargs.getD 1 undef) := hreps 1 (by simp)
      rw [args2 hsz]
      have hy := rep_v_inv hy
      rw [hy]
      generalize cargs.getD 0 undef = v at hx
      obtain ⟨L, vs, t', h1, ⟨h2, h3⟩, h4, h5, h6⟩ := hs.objs _ _ hk
      have hs2 : vs.size = 2 := h5
      have hv0 : Rep w ok G.B ι (.bself k o' t) (vs.getD 0 undef) := h6 0 (by simp)
      have hv1 : Rep w ok G.B ι .nils (vs.getD 1 undef) := h6 1 (by simp)
      have hv1' : vs.getD 1 undef = .slice none 0 0 := by
        generalize vs.getD 1 undef = q at hv1
        cases hv1; rfl
      cases hx with
      | ptr g =>
        rw [h1] at g; injection g with g; subst g
        have ht' : t' = t := by
          generalize vs.getD 0 undef = q at hv0
          cases hv0 with
          | bself a1 a2 a3 a4 => rw [h1] at a1; injection a1 with a1; subst a1; exact h3.symm.trans a3
        subst ht'
        have hvs : vs = #[vs.getD 0 undef, .slice none 0 0] := by
          rw [← hv1']; exact args2 hs2
        have hbk : w.heap[L.b]? = some (.cells #[vs.getD 0 undef, .slice none 0 0] t' (0, 0)) := by rw [← hvs]; exact h4
        have hnn : n = ((n.toNat : Nat) : Int) := by omega
        rw [hnn]
        refine (hA.grow L.b n.toNat w _ hbk (by omega)).mono fun e' w' hh => ?_
        obtain ⟨g1, cs, g2, g3⟩ := hh
        have hcs : 0 < cs.size := by omega
        have hbl : L.b < w.heap.size := (Array.getElem?_eq_some_iff.1 h4).1
        obtain ⟨n1, n2⟩ := newRow_ok hs (l := .I .u8 []) (vs := cs) (e := u8T) (c := cs.size) (Nat.zero_le _) (by simp [Lst.sz]) (fun i j hi hj => absurd hi (Nat.not_lt_zero _)) (fun i hi => absurd hi (Nat.not_lt_zero _)) rfl
        have hne : st.nk ≠ k := fun e => by rw [e] at hlt; exact Nat.lt_irrefl _ hlt
        have hk1 : look (newRowSt st (.I .u8 [])).ar k = some (.cells [.bself k o' t', .nils]) := by
          show look ((st.nk, AObj.row true (.I .u8 [])) :: st.ar) k = _
          rw [look_cons, if_neg hne]; exact hk
        have hl1 : (ι.set st.nk ⟨w.heap.size, 0, (Lst.I IntKind.u8 []).length, cs.size⟩) k = some L := by rw [Loci.set_other (fun e => hne e.symm)]; exact h1
        have hheap0 : (w.alloc (.cells cs u8T)).heap[L.b]? = some (.cells vs t' (0, 0)) := (heap_alloc_old hbl).trans h4
        have hoth : ∀ b, b ≠ L.b → ((w.alloc (.cells cs u8T)).setCell ⟨L.b, 1, none⟩ (.slice (some ⟨w.heap.size, 0, none⟩) 0 cs.size)).heap[b]? = (w.alloc (.cells cs u8T)).heap[b]? := by
          intro b hb
          simp only [World.setCell, Array.getElem?_modify]
          rw [if_neg (fun e => hb e.symm)]
        have hap := hs.apart k _ L hk rfl h1 (by rw [h2]; exact Nat.one_pos)
        have hmem : ∀ b, ok b → ((w.alloc (.cells cs u8T)).setCell ⟨L.b, 1, none⟩ (.slice (some ⟨w.heap.size, 0, none⟩) 0 cs.size)).heap[b]? = w.heap[b]? := fun b hb => (hoth b (fun e => hap.1 (e ▸ hb))).trans (heap_alloc_old (hs.oklt b hb))
        have hwr := n1.write (o' := .cells [.bself k o' t', .ownV st.nk]) (w' := (w.alloc (.cells cs u8T)).setCell ⟨L.b, 1, none⟩ (.slice (some ⟨w.heap.size, 0, none⟩) 0 cs.size)) hk1 rfl hl1 (by rw [h2]; exact Nat.one_pos) rfl rfl rfl (by simp [World.setCell]) hoth
          ⟨L, vs.setIfInBounds 1 (.slice (some ⟨w.heap.size, 0, none⟩) 0 cs.size), t', hl1, ⟨h2, h3⟩, by
            simp only [World.setCell, Array.getElem?_modify, if_pos, hheap0, Option.map_some]; rfl, by simp [hs2], fun i hi => by
            match i, hi with
            | 0, _ =>
              have e5 : (vs.setIfInBounds 1 (Value.slice (some ⟨w.heap.size, 0, none⟩) 0 cs.size)).getD 0 undef = vs.getD 0 undef := by
                simp [Array.getD_eq_getD_getElem?, Array.getElem?_setIfInBounds]
              rw [e5]
              exact hv0.mono hmem (fun _ h => h) (Loci.set_le (hs.fresh _ (Nat.le_refl _)))
            | 1, _ =>
              have e5 : (vs.setIfInBounds 1 (Value.slice (some ⟨w.heap.size, 0, none⟩) 0 cs.size)).getD 1 undef = .slice (some ⟨w.heap.size, 0, none⟩) 0 cs.size := by
                have : 1 < vs.size := by omega
                simp [Array.getD_eq_getD_getElem?, this]
              rw [e5]
              exact .ownV (L := ⟨w.heap.size, 0, (Lst.I IntKind.u8 []).length, cs.size⟩) (Loci.set_same _ _ _) hcs⟩
        have hw : w' = ((w.alloc (.cells cs u8T)).setCell ⟨L.b, 1, none⟩ (.slice (some ⟨w.heap.size, 0, none⟩) 0 cs.size)).drew.drew.drew := by
          rw [g3, World.setCell_alloc_past _ _ _ _ hbl]
        subst hw
        exact ⟨_, _, ok, g1, hwr.drew.drew.drew, .tuple (by rfl) (fun i hi => absurd hi (Nat.not_lt_zero _))⟩
    · cases h
  · cases h
end Go.Ev

namespace Go.Ev
set_option linter.unusedSimpArgs false
set_option linter.unusedVariables false
/-! ### code in a round of a range over a function -/
abbrev FW (l : Nat) : Fence := Fence.wide.inRound l
theorem upon_in {P : Program} {o : Oper} {a : Act} {next : Act → World → Prop} {Q : Exit → Act → World → Prop} {l n : Nat} : ∀ {r : Result Next}, o.upon P a next Q r → o.uponIn (FW l) n P a next Q r
  | .ok (.value v) w, h => h
  | .ok .skip w, h => h
  | .ok (.defer d) w, h => h
  | .ok (.enter f args) w, h => ⟨fun h => (by cases h), callsIn_wide.2 h⟩
  | .ok (.row row args) w, h => ⟨fun h => (by cases h), fun c cs _ => by
      obtain ⟨v, w', h1, h2⟩ := h c cs
      exact ⟨v, w', h1, stepsIn_wide.2 h2⟩⟩
  | .halt (.panic v) w, h => h
  | .ok (.callThen ..) w, h => h.elim
  | .ok (.stack ..) w, h => h.elim
  | .ok (.round ..) w, h => h.elim
  | .ok .recover w, h => h.elim
  | .ok (.comm ..) w, h => h.elim
  | .ok .numGoroutine w, h => h.elim
  | .ok .collect w, h => h.elim
  | .ok (.watch v) w, h => h.elim
  | .ok (.newcoro ..) w, h => h.elim
  | .ok (.coroswitch ..) w, h => h.elim
  | .ok (.sleep ..) w, h => h.elim
  | .ok (.timer ..) w, h => h.elim
  | .ok (.alone ..) w, h => h.elim
  | .ok (.spawn ..) w, h => h.elim
  | .halt .goexit w, h => h.elim
  | .halt .blocked w, h => h.elim
  | .halt .waiting w, h => h.elim
  | .halt (.exit c) w, h => h.elim
  | .halt (.fatal c) w, h => h.elim
  | .halt (.throw c) w, h => h.elim
  | .halt (.unsupported c) w, h => h.elim
  | .halt (.stuck c) w, h => h.elim
theorem op_in {P : Program} {o : Oper} (hnd : ∀ c, o.op ≠ .defer c) {a : Act} {w : World} {next : Act → World → Prop} {Q : Exit → Act → World → Prop} {l n : Nat} (h : o.wp P a w next Q) : o.wpIn (FW l) n P a w next Q := by
  refine ⟨fun _ _ => trivial, ?_⟩
  rw [Oper.semAt_eq _ _ _ hnd]
  exact upon_in h
def RunsR (P : Program) (c : Code) (st : St) (x : X) (st' : St) : Prop :=
  ∀ (G : Base) (a : Act) (w : World) (l : Nat) (Q : Exit → Act → World → Prop), Sim G st a w → (∀ ex a' w', XSim G x st' ex a' w' → Q ex a' w') → c.wpIn (FW l) 0 P Q a w
def RunsOpR (P : Program) (o : Oper) (st : St) (x : X) (st' : St) : Prop :=
  ∀ (G : Base) (a : Act) (w : World) (l : Nat) (next : Act → World → Prop) (Q : Exit → Act → World → Prop), Sim G st a w →
    (∀ ex a' w', XSim G x st' ex a' w' → Exit.then next Q ex a' w') → o.wpIn (FW l) 0 P a w next Q
def EOKR {R : Type} (P : Program) (E : EvO R) : Prop := ∀ o st K r, E o st K = some r → ∃ x st', RunsOpR P o st x st' ∧ K x st' = some r
def isDefer : Op → Bool
  | .defer _ => true
  | _ => false
/-- an operation in a round -/
def evOpR {R : Type} (P : Program) (O : FuncId → Option (CallF R)) : EvO R := fun o st K => bif isDefer o.op then none else evOp P O o st K
theorem evOpR_ok {R : Type} {P : Program} {O : FuncId → Option (CallF R)} (hO : OOK P O) : EOKR P (evOpR P O) := by
  intro o st K r h
  unfold evOpR at h
  cases hd : isDefer o.op <;> rw [hd] at h
  · obtain ⟨x, st', h1, h2⟩ := evOp_ok hO _ _ _ _ h
    exact ⟨x, st', fun G a w l next Q hs hq => op_in (fun c e => by rw [e] at hd; cases hd) (h1 G a w next Q hs hq), h2⟩
  · cases h
def RunsOpsR (P : Program) (all : Array Oper) (l : List Oper) (st : St) (x : X) (st' : St) : Prop :=
  ∀ (G : Base) (a : Act) (w : World) (k : Nat) (Q : Exit → Act → World → Prop), Sim G st a w → (∀ ex a' w', XSim G x st' ex a' w' → Q ex a' w') → wpListIn (FW k) 0 P all Q l a w
theorem evOps_okR {R : Type} {P : Program} {E : EvO R} (hE : EOKR P E) {all : Array Oper} : ∀ (l : List Oper) (st : St) (K : X → St → Option R) (r : R), evOps E all l st K = some r →
    ∃ x st', RunsOpsR P all l st x st' ∧ K x st' = some r := by
  intro l
  induction l with
  | nil => intro st K r h; exact ⟨.normal, st, fun G a w k Q hs hq => hq .normal a w ⟨rfl, hs⟩, h⟩
  | cons o l ih =>
    intro st K r h
    have main : ∀ (st : St) (hE' : (E o st fun x st => match x with
            | .normal => evOps E all l st K
            | x => K x st) = some r), (∀ G a w, Sim G st a w → Region.wanted o (yielded all a.tmps) = true) → ∃ x st', RunsOpsR P all (o :: l) st x st' ∧ K x st' = some r := by
      intro st hE' hw
      obtain ⟨x, st₁, ho, hK⟩ := hE _ _ _ _ hE'
      by_cases hx : x = .normal
      · subst hx
        obtain ⟨x₂, st₂, hl, hK₂⟩ := ih _ _ _ hK
        refine ⟨x₂, st₂, fun G a w k Q hs hq => ?_, hK₂⟩
        rw [wpListIn, if_pos (hw G a w hs)]
        refine ho G a w k _ _ hs ?_
        rintro ex a' w' ⟨rfl, hs'⟩
        exact hl G a' w' k Q hs' hq
      · refine ⟨x, st₁, fun G a w k Q hs hq => ?_, by cases x <;> first | exact absurd rfl hx | exact hK⟩
        rw [wpListIn, if_pos (hw G a w hs)]
        refine ho G a w k _ _ hs ?_
        intro ex a' w' h'
        have := hq ex a' w' h'
        cases x with
        | normal => exact absurd rfl hx
        | exit i => obtain ⟨rfl, _⟩ := h'; exact this
        | goto i => obtain ⟨rfl, _⟩ := h'; exact this
        | ret => obtain ⟨rfl, _⟩ := h'; exact this
        | pan v => obtain ⟨_, _, _, rfl, _⟩ := h'; exact this
    have over : ∀ (st : St), (bif dstOk st.n o.dst then evOps E all l (st.put o.dst (.v undef)) K else none) = some r → (∀ G a w, Sim G st a w → Region.wanted o (yielded all a.tmps) = false) →
        ∃ x st', RunsOpsR P all (o :: l) st x st' ∧ K x st' = some r := by
      intro st h hw
      cases hdk : dstOk st.n o.dst <;> rw [hdk] at h <;> simp only [cond_true, cond_false] at h
      · cases h
      · obtain ⟨x, st', hl, hK⟩ := ih _ _ _ h
        refine ⟨x, st', fun G a w k Q hs hq => ?_, hK⟩
        rw [wpListIn, if_neg (by rw [hw G a w hs]; simp)]
        obtain ⟨ι, ok, hs⟩ := hs
        exact ⟨fun _ _ => trivial, hl G _ w k Q ⟨ι, ok, hs.put hdk (.v undef)⟩ hq⟩
    unfold evOps at h
    split at h
    · rename_i hg
      exact main _ h (fun G a w hs => by unfold Region.wanted; rw [hg])
    · rename_i j want hg
      split at h
      · rename_i d hd
        have hy : ∀ {x : Value} {st : St}, look st.ts d = some (.v x) → ∀ G a w, Sim G st a w → yielded all a.tmps j = (match x with | .bool b => some b | _ => none) := by
          rintro x st hb G a w ⟨ι, ok, hs⟩
          obtain ⟨h1, h2⟩ := hs.slots _ _ hb
          have h2 := rep_v_inv h2
          unfold yielded
          rw [hd]
          have hlt : d < a.tmps.size := by rw [hs.size]; exact h1
          rw [Array.getD_eq_getD_getElem?, Array.getElem?_eq_getElem hlt] at h2
          simp only [Option.bind_some, Array.getElem?_eq_getElem hlt]
          simp only [Option.getD_some] at h2
          rw [h2]
          cases x <;> rfl
        split at h
        · rename_i b hb
          have hknow : look (st.know d b).ts d = some (.v (.bool b)) := by simp [St.know, look_cons]
          have up : ∀ G a w, Sim G st a w → Sim G (st.know d b) a w := by
            rintro G a w ⟨ι, ok, hs⟩
            refine ⟨ι, ok, { hs with slots := ?_ }⟩
            intro t x hx
            simp only [St.know, look_cons] at hx
            split at hx
            · rename_i e; subst e; injection hx with hx; subst hx; exact hs.slots _ _ hb
            · exact hs.slots _ _ hx
          have hw : ∀ G a w, Sim G (st.know d b) a w → Region.wanted o (yielded all a.tmps) = (some b == some want) := by
            intro G a w hs
            unfold Region.wanted; rw [hg]
            show (yielded all a.tmps j == some want) = _
            rw [hy hknow G a w hs]
          have wrap : (∃ x st', RunsOpsR P all (o :: l) (st.know d b) x st' ∧ K x st' = some r) → ∃ x st', RunsOpsR P all (o :: l) st x st' ∧ K x st' = some r := by
            rintro ⟨x, st', h1, h2⟩
            exact ⟨x, st', fun G a w k Q hs hq => h1 G a w k Q (up G a w hs) hq, h2⟩
          refine wrap ?_
          cases b <;> cases want <;> simp only [cond_true, cond_false] at h
          · exact main _ h (fun G a w hs => by rw [hw G a w hs]; rfl)
          · exact over _ h (fun G a w hs => by rw [hw G a w hs]; rfl)
          · exact over _ h (fun G a w hs => by rw [hw G a w hs]; rfl)
          · exact main _ h (fun G a w hs => by rw [hw G a w hs]; rfl)
        · rename_i vs hb
          refine over _ h (fun G a w hs => ?_)
          unfold Region.wanted; rw [hg]
          show (yielded all a.tmps j == some want) = _
          rw [hy hb G a w hs]; rfl
        · cases h
      · cases h
/-- no scopes -/
def plainC : Code → Bool
  | .seq a b => plainC a && plainC b
  | .cond _ a b => plainC a && plainC b
  | .block _ c => plainC c
  | .scope _ => false
  | _ => true
theorem evCode_okR {R : Type} {P : Program} {E : EvO R} (hE : EOKR P E) : ∀ (c : Code) (p : Nat) (st : St) (K : X → St → Option R) (r : R), plainC c = true → evCode E (fun _ => none) p c st K = some r →
    ∃ x st', RunsR P c st x st' ∧ K x st' = some r := by
  intro c
  induction c with
  | skip => intro p st K r hp h; exact ⟨.normal, st, fun G a w l Q hs hq => wpIn_skip (hq .normal a w ⟨rfl, hs⟩), h⟩
  | label l => intro p st K r hp h; exact ⟨.normal, st, fun G a w l Q hs hq => wpIn_label (hq .normal a w ⟨rfl, hs⟩), h⟩
  | region id ops draw =>
    intro p st K r hp h
    cases draw
    · obtain ⟨x, st', hl, hK⟩ := evOps_okR hE _ _ _ _ h
      exact ⟨x, st', fun G a w l Q hs hq => wpIn_region_list (hl G a w l Q hs hq), hK⟩
    · cases h
  | seq c₁ c₂ ih₁ ih₂ =>
    intro p st K r hp h
    unfold evCode at h
    simp only [plainC, Bool.and_eq_true] at hp
    obtain ⟨x, st₁, h₁, hK⟩ := ih₁ _ _ _ _ hp.1 h
    by_cases hx : x = .normal
    · subst hx
      obtain ⟨x₂, st₂, h₂, hK₂⟩ := ih₂ _ _ _ _ hp.2 hK
      refine ⟨x₂, st₂, fun G a w l Q hs hq => wpIn_seq (h₁ G a w l _ hs ?_), hK₂⟩
      rintro ex a' w' ⟨rfl, hs'⟩
      exact h₂ G a' w' l Q hs' hq
    · refine ⟨x, st₁, fun G a w l Q hs hq => wpIn_seq (h₁ G a w l _ hs ?_), by cases x <;> first | exact absurd rfl hx | exact hK⟩
      intro ex a' w' h'
      have := hq ex a' w' h'
      cases x with
      | normal => exact absurd rfl hx
      | exit i => obtain ⟨rfl, _⟩ := h'; exact this
      | goto i => obtain ⟨rfl, _⟩ := h'; exact this
      | ret => obtain ⟨rfl, _⟩ := h'; exact this
      | pan v => obtain ⟨_, _, _, rfl, _⟩ := h'; exact this
  | cond c t e ih₁ ih₂ =>
    intro p st K r hp h
    unfold evCode at h
    simp only [plainC, Bool.and_eq_true] at hp
    simp only at h
    split at h
    · rename_i b hb
      cases b <;> simp only [cond_true, cond_false] at h
      · obtain ⟨x, st', h₁, hK⟩ := ih₂ _ _ _ _ hp.2 h
        refine ⟨x, st', fun G a w l Q hs hq => ?_, hK⟩
        obtain ⟨ι, ok, hs'⟩ := hs
        exact wpIn_cond_false (rep_v_inv (hs'.opnd hb)) (h₁ G a w l Q ⟨ι, ok, hs'⟩ hq)
      · obtain ⟨x, st', h₁, hK⟩ := ih₁ _ _ _ _ hp.1 h
        refine ⟨x, st', fun G a w l Q hs hq => ?_, hK⟩
        obtain ⟨ι, ok, hs'⟩ := hs
        exact wpIn_cond_true (rep_v_inv (hs'.opnd hb)) (h₁ G a w l Q ⟨ι, ok, hs'⟩ hq)
    · cases h
  | block id c ih =>
    intro p st K r hp h
    unfold evCode at h
    obtain ⟨x, st', h₁, hK⟩ := ih _ _ _ _ (by simpa [plainC] using hp) h
    cases x with
    | exit i =>
      by_cases hi : i = id
      · subst hi
        have hK : (bif i.beq i then K X.normal st' else K (X.exit i) st') = some r := hK
        rw [Nat.beq_refl] at hK
        refine ⟨.normal, st', fun G a w l Q hs hq => wpIn_block (h₁ G a w l _ hs ?_), hK⟩
        rintro ex a' w' ⟨rfl, hs'⟩
        show (if i = i then _ else _)
        rw [if_pos rfl]
        exact hq _ _ _ ⟨rfl, hs'⟩
      · have hb : Nat.beq i id = false := by
          cases hb : Nat.beq i id with
          | false => rfl
          | true => exact absurd (Nat.eq_of_beq_eq_true hb) hi
        have hK : (bif i.beq id then K X.normal st' else K (X.exit i) st') = some r := hK
        rw [hb] at hK
        refine ⟨.exit i, st', fun G a w l Q hs hq => wpIn_block (h₁ G a w l _ hs ?_), hK⟩
        rintro ex a' w' ⟨rfl, hs'⟩
        show (if i = id then _ else _)
        rw [if_neg hi]
        exact hq _ _ _ ⟨rfl, hs'⟩
    | normal =>
      refine ⟨_, st', fun G a w l Q hs hq => wpIn_block (h₁ G a w l _ hs ?_), hK⟩
      rintro ex a' w' ⟨rfl, hs'⟩
      exact hq _ _ _ ⟨rfl, hs'⟩
    | goto l =>
      refine ⟨_, st', fun G a w l Q hs hq => wpIn_block (h₁ G a w l _ hs ?_), hK⟩
      rintro ex a' w' ⟨rfl, hs'⟩
      exact hq _ _ _ ⟨rfl, hs'⟩
    | ret =>
      refine ⟨_, st', fun G a w l Q hs hq => wpIn_block (h₁ G a w l _ hs ?_), hK⟩
      rintro ex a' w' ⟨rfl, hs'⟩
      exact hq _ _ _ ⟨rfl, hs'⟩
    | pan v =>
      refine ⟨_, st', fun G a w l Q hs hq => wpIn_block (h₁ G a w l _ hs ?_), hK⟩
      rintro ex a' w' ⟨ι, ok, cv, rfl, hs'⟩
      exact hq _ _ _ ⟨ι, ok, cv, rfl, hs'⟩
  | loop c _ => intro p st K r hp h; cases h
  | scope c ih => intro p st K r hp h; cases hp
  | exit id => intro p st K r hp h; exact ⟨.exit id, st, fun G a w l Q hs hq => wpIn_exit (hq _ a w ⟨rfl, hs⟩), h⟩
  | goto l => intro p st K r hp h; exact ⟨.goto l, st, fun G a w k Q hs hq => wpIn_goto (hq _ a w ⟨rfl, hs⟩), h⟩
  | ret => intro p st K r hp h; exact ⟨.ret, st, fun G a w l Q hs hq => wpIn_ret (hq _ a w ⟨rfl, hs⟩), h⟩
  | rangeFunc => intro p st K r hp h; cases h
  | refuse => intro p st K r hp h; cases h
end Go.Ev

namespace Go.Ev
set_option linter.unusedSimpArgs false
set_option linter.unusedVariables false
/-! ### worlds turned at one block that nobody looks at -/
theorem putObj_putObj (w : World) (l : Nat) (o o' : Obj) : (w.putObj l o).putObj l o' = w.putObj l o' := by
  unfold World.putObj; simp
section
variable {G : Base} {ι : Loci} {ok : Nat → Prop} {st : St} {a : Act} {w : World}
/-- nothing that is told lies in the block -/
def Free (ι : Loci) (ok : Nat → Prop) (st : St) (l : Nat) : Prop := ¬ ok l ∧ ∀ k o L, look st.ar k = some o → o.owned = true → ι k = some L → 0 < L.cp → L.b ≠ l
theorem SimI.swap (h : SimI G ι ok st a w) {G' : Base} {l : Nat} {o : Obj} (hf : Free ι ok st l) (hl : l < w.heap.size) (hB : G'.B = G.B) (hok0 : G'.ok0 = G.ok0) (hown0 : G'.own0 = G.own0) (hloc : G'.loc = G.loc)
    (hos : G'.w0.os = G.w0.os) (htape : G'.w0.tape = G.w0.tape) (hout : G'.w0.output = G.w0.output) (hN : G'.w0.heap.size = G.w0.heap.size) (hh : ∀ b, b ≠ l → G'.w0.heap[b]? = G.w0.heap[b]?)
    (hhl : l < G.N → ¬ G.own0 l → G'.w0.heap[l]? = some o) : SimI G' ι ok st a (w.putObj l o) := by
  have hmem : ∀ b : Nat, ok b → (w.putObj l o).heap[b]? = w.heap[b]? := fun b hb => World.putObj_heap_other (fun e => hf.1 (e ▸ hb))
  have hid : ∀ (i : Key) (L' : Loc), ι i = some L' → ι i = some L' := fun _ _ h => h
  have hNN : G'.N = G.N := hN
  exact {
    size := h.size
    dfn := h.dfn
    dfs := fun i x d hx hd => by obtain ⟨f, caps, g1, g2⟩ := h.dfs i x d hx hd; exact ⟨f, caps, by rw [hB]; exact g1.mono hmem (fun _ h => h) hid, g2⟩
    tags := fun k j hk => by rw [hloc]; exact h.tags k j hk
    slots := fun t x hx => ⟨(h.slots t x hx).1, by rw [hB]; exact (h.slots t x hx).2.mono hmem (fun _ h => h) hid⟩
    objs := fun k o' hk => by
      rw [hB]
      by_cases hd : o' = .dead
      · subst hd; trivial
      · refine (h.objs k o' hk).mono (fun L hl' hcp => ?_) hmem (fun _ h => h) hid
        cases hown : o'.owned with
        | true => exact World.putObj_heap_other (hf.2 k o' L hk hown hl' hcp)
        | false => exact hmem _ (h.frozen_ok hk hl' hcp hown hd)
    inj := h.inj
    apart := fun k o' L hk ho hl' hc => by rw [hown0, hNN]; exact h.apart k o' L hk ho hl' hc
    fresh := h.fresh
    os := h.os.trans hos.symm
    tape := h.tape.trans htape.symm
    output := h.output.trans hout.symm
    heap := by rw [hNN, World.putObj_size]; exact h.heap
    block := fun b hb hn => by
      rw [hNN] at hb
      rw [hown0] at hn
      by_cases e : b = l
      · subst e
        rw [World.putObj_heap_same hl, hhl hb hn]
      · rw [World.putObj_heap_other e, hh b e]; exact h.block b hb hn
    okin := fun b hb => by rw [hok0] at hb; exact h.okin b hb
    oksub := fun b hb => by rw [hok0, hown0, hNN]; exact h.oksub b hb
    oklt := fun b hb => by rw [World.putObj_size]; exact h.oklt b hb }
/-- a block beyond what there was, turned -/
theorem SimI.other (h : SimI G ι ok st a w) {l : Nat} {o : Obj} (hf : Free ι ok st l) (hl : l < w.heap.size) (hb : G.own0 l ∨ G.N ≤ l) : SimI G ι ok st a (w.putObj l o) :=
  h.swap hf hl rfl rfl rfl rfl rfl rfl rfl rfl (fun _ _ => rfl) (fun h1 h2 => by rcases hb with hb | hb; exact absurd hb h2; exact absurd h1 (Nat.not_lt.2 hb))
/-- what is told of a block that the base does not let in -/
theorem SimI.free (h : SimI G ι ok st a w) {l : Nat} (h1 : ¬ G.ok0 l) (h2 : ¬ G.own0 l) (h3 : l < G.N) : Free ι ok st l :=
  ⟨fun hl => by rcases h.oksub l hl with g | g | g; exact h1 g; exact h2 g; exact absurd h3 (Nat.not_lt.2 g),
   fun k o L hk ho hl hc e => by
    rcases (h.apart k o L hk ho hl hc).2 with g | g
    · rw [e] at g; exact h2 g
    · rw [e] at g; exact absurd h3 (Nat.not_lt.2 g)⟩
/-! ### the base set anew -/
def ownedBy (ι : Loci) (st : St) (b : Nat) : Prop := ∃ k o L, look st.ar k = some o ∧ o.owned = true ∧ ι k = some L ∧ 0 < L.cp ∧ L.b = b
theorem SimI.shpOwned (h : SimI G ι ok st a w) : ∀ g ∈ shpList, ¬ ownedBy ι st g := by
  rintro g hg ⟨k, o, L, q1, q2, q3, q4, q5⟩
  exact h.shpOwn hg q1 q2 q3 q4 q5
def Base.re (G : Base) (ok own : Nat → Prop) (w : World) (hB : G.B ≤ w.heap.size) (hs : ShpW w) (ho : ∀ g ∈ shpList, ¬ own g) : Base :=
  { w0 := w, ok0 := ok, own0 := own, B := G.B, hB := hB, loc := G.loc, shp := hs, shpo := ho }
def SimI.reb (h : SimI G ι ok st a w) : Base := G.re ok (ownedBy ι st) w (Nat.le_trans G.hB h.heap) h.shp h.shpOwned
theorem SimI.rebase (h : SimI G ι ok st a w) : SimI h.reb ι ok st a w :=
  { h with
    apart := fun k o L hk ho hl hc => ⟨(h.apart k o L hk ho hl hc).1, .inl ⟨k, o, L, hk, ho, hl, hc, rfl⟩⟩
    os := rfl, tape := rfl, output := rfl
    heap := Nat.le_refl _
    block := fun _ _ _ => rfl
    okin := fun _ h => h
    oksub := fun _ h => .inl h }
theorem SimI.unbase (h : SimI G ι ok st a w) {ι' : Loci} {ok' : Nat → Prop} {st' : St} {a' : Act} {w' : World} (h1 : SimI h.reb ι' ok' st' a' w') : SimI G ι' ok' st' a' w' := by
  have own : ∀ b, ownedBy ι st b → G.own0 b ∨ G.N ≤ b := by
    rintro b ⟨k, o, L, q1, q2, q3, q4, q5⟩
    have := (h.apart k o L q1 q2 q3 q4).2
    rw [q5] at this; exact this
  exact { h1 with
    apart := fun k o L hk ho hl hc => by
      have g := h1.apart k o L hk ho hl hc
      refine ⟨g.1, ?_⟩
      rcases g.2 with g2 | g2
      · exact own _ g2
      · exact .inr (Nat.le_trans h.heap g2)
    os := h1.os.trans h.os
    tape := h1.tape.trans h.tape
    output := h1.output.trans h.output
    heap := Nat.le_trans h.heap h1.heap
    block := fun b hb hn => by
      rw [h1.block b (Nat.lt_of_lt_of_le hb h.heap) (fun hb' => by
        rcases own b hb' with g | g
        · exact hn g
        · exact absurd hb (Nat.not_lt.2 g))]
      exact h.block b hb hn
    okin := fun b hb => h1.okin b (h.okin b hb)
    oksub := fun b hb => by
      rcases h1.oksub b hb with g | g | g
      · exact h.oksub b g
      · exact .inr (own b g)
      · exact .inr (.inr (Nat.le_trans h.heap g)) }
/-! ### values that lean on no object of the call's own -/
mutual
def closedB : AV → Bool
  | .v _ => true
  | .nils => true
  | .ro _ _ => true
  | .rp _ _ => true
  | .agg l => closedBs l
  | _ => false
def closedBs : List AV → Bool
  | [] => true
  | x :: r => closedB x && closedBs r
end
theorem closedBs_get : ∀ (l : List AV), closedBs l = true → ∀ i, i < l.length → closedB (l.getD i default) = true
  | [], _, i, hi => by simp at hi
  | x :: r, h, 0, _ => by simp only [closedBs, Bool.and_eq_true] at h; exact h.1
  | x :: r, h, i + 1, hi => by
    simp only [closedBs, Bool.and_eq_true] at h
    simpa using closedBs_get r h.2 i (by simpa using hi)
theorem rep_closed {ok : Nat → Prop} {B : Nat} {ι : Loci} {x : AV} {v : Value} (h : Rep w ok B ι x v) (hx : closedB x = true) : Rep w ok B (fun _ => none) x v := by
  induction h with
  | v x => exact .v x
  | nils => exact .nils
  | rp val h1 h2 h3 => exact .rp val h1 h2 h3
  | ro val h1 h2 h3 h4 h5 h6 h7 h8 h9 => exact .ro val h1 h2 h3 h4 h5 h6 h7 h8 h9
  | ro0 h1 h2 => exact .ro0 h1 h2
  | agg h1 h2 ih => exact .agg h1 (fun i hi => ih i hi (closedBs_get _ (by simpa [closedB] using hx) i hi))
  | _ => simp [closedB] at hx
/-- A variable of the call's own is given up: from now on it is only read. -/
theorem SimI.freezeC (h : SimI G ι ok st a w) {k : Key} {cs cs' : List AV} (hk : look st.ar k = some (.cells cs)) (hlen : cs'.length = cs.length)
    (hr : ∀ L vs t, ι k = some L → w.heap[L.b]? = some (.cells vs t (0, 0)) → ∀ i, i < cs'.length → Rep w ok G.B (fun _ => none) (cs'.getD i default) (vs.getD i undef)) {off : Nat} {v : Value} (hv : Rep w ok G.B ι (.ptr k off) v) :
    ∃ ok' : Nat → Prop, SimI G ι ok' { st with ar := (k, .dead) :: st.ar } a w ∧ Rep w ok' G.B (fun _ => none) (.rp (.agg cs') off) v ∧ ∀ b, ok b → ok' b := by
  obtain ⟨L, vs, t, h1, h2, h3, h4, h5⟩ := h.objs _ _ hk
  have hid : ∀ b : Nat, ok b → w.heap[b]? = w.heap[b]? := fun _ _ => rfl
  have hι : ∀ (i : Key) (L' : Loc), ι i = some L' → ι i = some L' := fun _ _ h => h
  have hok : ∀ b, ok b → (fun b => ok b ∨ b = L.b) b := fun b hb => .inl hb
  have hcp : 0 < L.cp := by rw [h2.1]; exact Nat.one_pos
  have hlt : L.b < w.heap.size := (Array.getElem?_eq_some_iff.1 h3).1
  refine ⟨fun b => ok b ∨ b = L.b, ?_, ?_, hok⟩
  · exact {
      size := h.size
      dfn := h.dfn
      dfs := fun i x d hx hd => by obtain ⟨f, caps, g1, g2⟩ := h.dfs i x d hx hd; exact ⟨f, caps, g1.mono hid hok hι, g2⟩
      tags := h.tags
      slots := fun t x hx => ⟨(h.slots t x hx).1, (h.slots t x hx).2.mono hid hok hι⟩
      objs := fun k' o' hk' => by
        rw [look_cons] at hk'
        split at hk'
        · injection hk' with hk'; subst hk'; trivial
        · exact (h.objs k' o' hk').mono (fun _ _ _ => rfl) hid hok hι
      inj := by
        intro k₁ k₂ o₁ o₂ L₁ L₂ hk₁ hk₂ ho₁ ho₂
        rw [look_cons] at hk₁ hk₂
        split at hk₁
        · injection hk₁ with hk₁; subst hk₁; cases ho₁
        · split at hk₂
          · injection hk₂ with hk₂; subst hk₂; cases ho₂
          · exact h.inj k₁ k₂ o₁ o₂ L₁ L₂ hk₁ hk₂ ho₁ ho₂
      apart := by
        intro k' o' L' hk' hown hl hc'
        rw [look_cons] at hk'
        split at hk'
        · injection hk' with hk'; subst hk'; cases hown
        · rename_i e
          have hap := h.apart k' o' L' hk' hown hl hc'
          refine ⟨fun hb => ?_, hap.2⟩
          rcases hb with hb | hb
          · exact hap.1 hb
          · exact e (h.inj k k' _ o' L L' hk hk' rfl hown h1 hl hcp hc' hb.symm)
      fresh := h.fresh
      os := h.os, tape := h.tape, output := h.output, heap := h.heap, block := h.block
      okin := fun b hb => .inl (h.okin b hb)
      oksub := fun b hb => by
        rcases hb with hb | rfl
        · exact h.oksub b hb
        · exact .inr (h.apart k _ L hk rfl h1 hcp).2
      oklt := fun b hb => by
        rcases hb with hb | rfl
        · exact h.oklt b hb
        · exact hlt }
  · cases hv with
    | ptr g =>
      rw [h1] at g; injection g with g; subst g
      have := Rep.rp (w := w) (ok := fun b => ok b ∨ b = L.b) (B := G.B) (ι := fun _ => none) (x := .agg cs') (j := off) (b := L.b) (o := 0) (fun q => vs.getD q undef) (.inr rfl)
        (fun q hq => by
          have hq : q < cs'.length := hq
          have hq' : q < vs.size := by omega
          unfold World.cell?
          simp only [h3, Nat.zero_add]
          simp [Array.getD_eq_getD_getElem?, hq'])
        (fun q hq => by
          have hq : q < cs'.length := hq
          exact (hr L vs t h1 h3 q hq).mono hid hok (fun _ _ h => h))
      rw [Nat.zero_add] at this; exact this
end
/-! ### captured values given up -/
mutual
def closeAV : Nat → AV → St → Option (AV × St)
  | 0, _, _ => none
  | f + 1, x, st => bif closedB x then some (x, st) else match x with
    | .ptr k off => match look st.ar k with
      | some (.cells cs) => match closeAVs f cs st with
        | some (cs', st') => match look st'.ar k with
          | some (.cells _) => bif closedBs cs' then some (.rp (.agg cs') off, { st' with ar := (k, .dead) :: st'.ar }) else none
          | _ => none
        | none => none
      | _ => none
    | x => match frozen st x with
      | some (k, l, l') => some (.ro false l', { st with ar := (k, .row false l) :: st.ar })
      | none => none
def closeAVs : Nat → List AV → St → Option (List AV × St)
  | 0, _, _ => none
  | _ + 1, [], st => some ([], st)
  | f + 1, x :: r, st => match closeAV f x st with
    | some (x', st') => match closeAVs f r st' with
      | some (r', st'') => some (x' :: r', st'')
      | none => none
    | none => none
end
theorem close_ok : ∀ f, (∀ x st x' st', closeAV f x st = some (x', st') → ∀ (G : Base) ι ok a w v, SimI G ι ok st a w → Rep w ok G.B ι x v →
      ∃ ok' : Nat → Prop, SimI G ι ok' st' a w ∧ Rep w ok' G.B (fun _ => none) x' v ∧ ∀ b, ok b → ok' b) ∧
    (∀ l st l' st', closeAVs f l st = some (l', st') → ∀ (G : Base) ι ok a w (vs : Nat → Value), SimI G ι ok st a w → (∀ i, i < l.length → Rep w ok G.B ι (l.getD i default) (vs i)) →
      l'.length = l.length ∧ ∃ ok' : Nat → Prop, SimI G ι ok' st' a w ∧ (∀ i, i < l'.length → Rep w ok' G.B (fun _ => none) (l'.getD i default) (vs i)) ∧ ∀ b, ok b → ok' b) := by
  intro f
  induction f with
  | zero => exact ⟨fun x st x' st' h => (by simp [closeAV] at h), fun l st l' st' h => (by simp [closeAVs] at h)⟩
  | succ f ih =>
    refine ⟨fun x st x' st' h G ι ok a w v hs hr => ?_, fun l st l' st' h G ι ok a w vs hs hr => ?_⟩
    · unfold closeAV at h
      cases hc : closedB x <;> rw [hc] at h
      · simp only [cond_false] at h
        have row : (match frozen st x with
            | some (k, l, l') => some (AV.ro false l', { st with ar := (k, .row false l) :: st.ar })
            | none => none) = some (x', st') → ∃ ok' : Nat → Prop, SimI G ι ok' st' a w ∧ Rep w ok' G.B (fun _ => none) x' v ∧ ∀ b, ok b → ok' b := by
          intro h
          split at h
          · rename_i k l l' hf
            injection h with h; injection h with e1 e2; subst e1; subst e2
            obtain ⟨ok', q1, q2, q3⟩ := frozen_ok hs hf hr
            exact ⟨ok', q1, rep_closed q2 rfl, q3⟩
          · cases h
        cases x with
        | ptr k off =>
          simp only at h
          split at h
          · rename_i cs hk
            split at h
            · rename_i cs' st1 hcs
              split at h
              · rename_i cs2 hk2
                obtain ⟨hcl, h⟩ := cond_none h
                injection h with h; injection h with e1 e2; subst e1; subst e2
                obtain ⟨L, vs, t, h1, h2, h3, h4, h5⟩ := hs.objs _ _ hk
                obtain ⟨g1, ok1, g2, g3, g4⟩ := ih.2 _ _ _ _ hcs G ι ok a w (fun i => vs.getD i undef) hs h5
                obtain ⟨L', vs', t', i1, i2, i3, i4, i5⟩ := g2.objs _ _ hk2
                rw [h1] at i1; injection i1 with i1; subst i1
                rw [h3] at i3; injection i3 with i3; injection i3 with i3 i3'; subst i3; subst i3'
                have hrp : Rep w ok1 G.B ι (.ptr k off) v := hr.mono (fun _ _ => rfl) g4 (fun _ _ h => h)
                obtain ⟨ok2, q1, q2, q3⟩ := g2.freezeC hk2 (cs' := cs') (by omega) (fun L2 vs2 t2 j1 j2 i hi => by
                  rw [h1] at j1; injection j1 with j1; subst j1
                  rw [h3] at j2; injection j2 with j2; injection j2 with j2 j2'; subst j2
                  exact g3 i hi) hrp
                exact ⟨ok2, q1, q2, fun b hb => q3 b (g4 b hb)⟩
              · cases h
            · cases h
          · cases h
        | _ => exact row h
      · simp only [cond_true] at h
        injection h with h; injection h with e1 e2; subst e1; subst e2
        exact ⟨ok, hs, rep_closed hr hc, fun _ h => h⟩
    · cases l with
      | nil =>
        simp only [closeAVs] at h
        injection h with h; injection h with e1 e2; subst e1; subst e2
        exact ⟨rfl, ok, hs, fun i hi => (by simp at hi), fun _ h => h⟩
      | cons x r =>
        simp only [closeAVs] at h
        split at h
        · rename_i y st1 h1
          split at h
          · rename_i r' st2 h2
            injection h with h; injection h with e1 e2; subst e1; subst e2
            obtain ⟨ok1, a1, a2, a3⟩ := ih.1 _ _ _ _ h1 G ι ok a w (vs 0) hs (hr 0 (by simp))
            obtain ⟨b0, ok2, b1, b2, b3⟩ := ih.2 _ _ _ _ h2 G ι ok1 a w (fun i => vs (i + 1)) a1 (fun i hi => (hr (i + 1) (by simp only [List.length_cons]; omega)).mono (fun _ _ => rfl) a3 (fun _ _ h => h))
            refine ⟨by simp [b0], ok2, b1, fun i hi => ?_, fun b hb => b3 b (a3 b hb)⟩
            cases i with
            | zero => exact a2.mono (fun _ _ => rfl) b3 (fun _ _ h => h)
            | succ i => exact b2 i (by simp only [List.length_cons] at hi; omega)
          · cases h
        · cases h
end Go.Ev

namespace Go.Ev
set_option linter.unusedSimpArgs false
set_option linter.unusedVariables false
/-! ### a round -/
/-- what a round does, told by a function of data -/
def RoundOK (P : Program) (assign body : Code) (n : Nat) (tin : Tmpl) (outs : Outs) (fn : tin.T → Option (ESum outs)) : Prop :=
  ∀ x y, fn x = some y → ∃ st1 xo st2, RunsR P assign (tin.enc n x) .normal st1 ∧ RunsR P body st1 xo st2 ∧ ∀ G ex a w, XSim G xo st2 ex a w → XSim G (outP n outs y).1 (outP n outs y).2 ex a w
def evRound {R : Type} (E : EvO R) (q : Nat) (assign body : Code) (st : St) (K : X → St → Option R) : Option R :=
  evCode E (fun _ => none) (2 * q) assign st fun x st => match x with
    | .normal => evCode E (fun _ => none) (2 * q + 1) body st K
    | _ => none
theorem round_ok {P : Program} {assign body : Code} {n q : Nat} {tin : Tmpl} {outs : Outs} {fn : tin.T → Option (ESum outs)} {E : EvO (ESum outs)} (hE : EOKR P E) (h1 : plainC assign = true) (h2 : plainC body = true)
    (h : ∀ x, evRound E q assign body (tin.enc n x) (decAt n outs) = fn x) : RoundOK P assign body n tin outs fn := by
  intro x y hy
  rw [← h x] at hy
  unfold evRound at hy
  obtain ⟨x1, st1, r1, k1⟩ := evCode_okR hE assign _ _ _ _ h1 hy
  cases x1 with
  | normal =>
    obtain ⟨x2, st2, r2, k2⟩ := evCode_okR hE body _ _ _ _ h2 k1
    obtain ⟨hn, hd⟩ := decAt_ok k2
    refine ⟨st1, x2, st2, r1, r2, fun G ex a w hx => ?_⟩
    have := decOuts_sim hd hx
    rw [hn] at this; exact this
  | _ => cases k1
/-- the state that a round begins with: the frame's places, yield's arguments in the parameters -/
def argPut : List Nat → List AV → List (Nat × AV) → List (Nat × AV)
  | p :: ps, x :: xs, ts => argPut ps xs ((p, x) :: ts)
  | _, _, ts => ts
def argSt (ps : List Nat) (xs : List AV) (st : St) : St := { st with ts := argPut ps xs st.ts, tg := [], df := [] }
def isNilL {α : Type} : List α → Bool
  | [] => true
  | _ => false
def rcoutK {R : Type} (kb : KB) (st : St) : (outs : Outs) → ESum outs → (XK → St → Option R) → Option R
  | [], y, _ => nomatch y
  | [o], y, K => bif isNilL o.2.ts && isNilL o.2.df then K o.1 (coutSt kb st o.2 y) else none
  | o :: o' :: r, y, K => Sum.elim (fun y => bif isNilL o.2.ts && isNilL o.2.df then K o.1 (coutSt kb st o.2 y) else none) (fun y => rcoutK kb st (o' :: r) y K) y
theorem rcout_out {R : Type} {kb : KB} {st : St} {n : Nat} : ∀ {outs : Outs} {y : ESum outs} {K : XK → St → Option R} {r : R}, rcoutK kb st outs y K = some r → ∃ (xk : XK) (t : Tmpl) (z : t.T), t.ts = [] ∧ t.df = [] ∧
    K xk (coutSt kb st t z) = some r ∧ ∀ G ex a w, XSim G (outP n outs y).1 (outP n outs y).2 ex a w → XSim G (outX n (xk, t) z) (outSt n (xk, t) z) ex a w
  | [], y, _, _, _ => nomatch y
  | [o], y, K, r, h => by
    unfold rcoutK at h
    obtain ⟨hc, h⟩ := cond_none h
    rw [Bool.and_eq_true] at hc
    refine ⟨o.1, o.2, y, ?_, ?_, h, fun G ex a w hs => hs⟩
    · cases hh : o.2.ts with | nil => rfl | cons _ _ => rw [hh] at hc; cases hc.1
    · cases hh : o.2.df with | nil => rfl | cons _ _ => rw [hh] at hc; cases hc.2
  | o :: o' :: r', .inl y, K, r, h => by
    simp only [rcoutK, Sum.elim_inl] at h
    obtain ⟨hc, h⟩ := cond_none h
    rw [Bool.and_eq_true] at hc
    refine ⟨o.1, o.2, y, ?_, ?_, h, fun G ex a w hs => hs⟩
    · cases hh : o.2.ts with | nil => rfl | cons _ _ => rw [hh] at hc; cases hc.1
    · cases hh : o.2.df with | nil => rfl | cons _ _ => rw [hh] at hc; cases hc.2
  | o :: o' :: r', .inr y, K, r, h => by
    obtain ⟨xk, t, z, h1, h2, h3, h4⟩ := rcout_out (n := n) (outs := o' :: r') (y := y) h
    exact ⟨xk, t, z, h1, h2, h3, fun G ex a w hs => h4 G ex a w hs⟩
/-- how a round's way out is told to the statement -/
def jumpOf : XK → Option (Option Code)
  | .normal => some none
  | .ret => some (some .ret)
  | .exit i => some (some (.exit i))
  | _ => none
theorem argPut_ok {G : Base} {ι : Loci} {ok : Nat → Prop} {st : St} {a : Act} {w : World} (h : SimI G ι ok st a w) : ∀ (ps : List Nat) (xs : List AV) (vs : List Value) (ts : List (Nat × AV)) (tmps : Array Value), tmps.size = st.n → xs.length = vs.length →
    (∀ i, i < xs.length → Rep w ok G.B ι (xs.getD i default) (vs.getD i undef)) → (∀ p ∈ ps, p < st.n) → (∀ t x, look ts t = some x → t < st.n ∧ Rep w ok G.B ι x (tmps.getD t undef)) →
    ((ps.zip vs).foldl (fun t (p, v) => t.setIfInBounds p v) tmps).size = st.n ∧ ∀ t x, look (argPut ps xs ts) t = some x → t < st.n ∧ Rep w ok G.B ι x (((ps.zip vs).foldl (fun t (p, v) => t.setIfInBounds p v) tmps).getD t undef)
  | [], xs, vs, ts, tmps, hs, hl, hr, hp, ht => by
    refine ⟨by simpa using hs, fun t x hx => ?_⟩
    have : argPut [] xs ts = ts := by cases xs <;> rfl
    rw [this] at hx
    simpa using ht t x hx
  | p :: ps, [], vs, ts, tmps, hs, hl, hr, hp, ht => by
    have : vs = [] := List.length_eq_zero_iff.1 hl.symm
    subst this
    exact ⟨by simpa using hs, fun t x hx => by simpa using ht t x hx⟩
  | p :: ps, x :: xs, [], ts, tmps, hs, hl, hr, hp, ht => by simp at hl
  | p :: ps, x :: xs, v :: vs, ts, tmps, hs, hl, hr, hp, ht => by
    simp only [List.zip_cons_cons, List.foldl_cons, argPut]
    refine argPut_ok h ps xs vs _ _ (by simpa using hs) (by simpa using hl) (fun i hi => by simpa using hr (i + 1) (by simp only [List.length_cons]; omega)) (fun q hq => hp q (List.mem_cons_of_mem _ hq)) (fun t y hy => ?_)
    rw [look_cons] at hy
    have hpn := hp p (List.mem_cons_self ..)
    split at hy
    · rename_i e; injection hy with hy; subst hy; subst e
      refine ⟨hpn, ?_⟩
      have h0 := hr 0 (by simp)
      have hsz : p < tmps.size := by omega
      have e : (tmps.setIfInBounds p v).getD p undef = v := by simp [Array.getD_eq_getD_getElem?, hsz]
      rw [e]; simpa using h0
    · rename_i e
      obtain ⟨g1, g2⟩ := ht t y hy
      refine ⟨g1, ?_⟩
      have e2 : (tmps.setIfInBounds p v).getD t undef = tmps.getD t undef := by
        simp only [Array.getD_eq_getD_getElem?, Array.getElem?_setIfInBounds]
        rw [if_neg e]
      rw [e2]; exact g2
theorem argSt_ok {G : Base} {ι : Loci} {ok : Nat → Prop} {st : St} {a : Act} {w : World} (h : SimI G ι ok st a w) {ps : Array Nat} {xs : List AV} {vs : Array Value} (hl : xs.length = vs.size)
    (hr : ∀ i, i < xs.length → Rep w ok G.B ι (xs.getD i default) (vs.getD i undef)) (hp : ∀ p ∈ ps.toList, p < st.n) :
    SimI G ι ok (argSt ps.toList xs st) ⟨(ps.zip vs).foldl (fun t (p, v) => t.setIfInBounds p v) a.tmps, []⟩ w := by
  obtain ⟨h1, h2⟩ := argPut_ok h ps.toList xs vs.toList st.ts a.tmps h.size (by simpa using hl) (fun i hi => by
    have := hr i hi
    rw [Array.getD_eq_getD_getElem?] at this
    rw [List.getD_eq_getElem?_getD]
    simpa using this) hp (fun t x hx => h.slots t x hx)
  have e : (ps.zip vs).foldl (fun t (p, v) => t.setIfInBounds p v) a.tmps = (ps.toList.zip vs.toList).foldl (fun t (p, v) => t.setIfInBounds p v) a.tmps := by
    rw [← Array.foldl_toList, Array.toList_zip]
  rw [e]
  exact { h with
    size := h1
    dfn := rfl
    dfs := fun i x d hx => by simp [argSt] at hx
    tags := fun k j hk => by cases hk
    slots := h2 }
/-- the base of a round -/
theorem round_call {P : Program} {assign body : Code} {n : Nat} {tin : Tmpl} {outs : Outs} {fn : tin.T → Option (ESum outs)} (hR : RoundOK P assign body n tin outs fn) (ht : tagLive tin = true)
    {G : Base} {ι : Loci} {ok : Nat → Prop} {st : St} {a : Act} {w : World} (hs : SimI G ι ok st a w) (hn : st.n = n) {ps : Array Nat} {xs : List AV} {vs : Array Value} (hl : xs.length = vs.size) (hps : vs.size = ps.size)
    (hr : ∀ i, i < xs.length → Rep w ok G.B ι (xs.getD i default) (vs.getD i undef)) (hp : ∀ p ∈ ps.toList, p < st.n)
    {x : tin.free.T} {kb : KB} (hd : tin.free.dec (argSt ps.toList xs st) = some (x, kb)) {y : ESum outs} (hy : fn x = some y)
    {R : Type} {K : XK → St → Option R} {r : R} (hk : rcoutK kb st outs y K = some r)
    {l : Nat} {f : FuncId} {D : Nat} (hfree : Free ι ok st l) (hrec : w.heap[l]? = some (.loop { state := .ready, pending := none, fn := f, tmps := a.tmps, params := ps, assign := assign, body := body, defers := D }))
    (hjump : ∀ xk st', K xk st' = some r → ∃ j, jumpOf xk = some j) :
    YieldAt Fence.wide 0 P l vs w fun e w' => ∃ xk j st' ι' ok', jumpOf xk = some j ∧ K xk st' = some r ∧ e = .returned (.bool j.isNone) ∧
      w'.heap[l]? = some (.loop { state := if j.isNone then .ready else .done, pending := j, fn := f, tmps := a.tmps, params := ps, assign := assign, body := body, defers := D }) ∧
      SimI G ι' ok' st' a (w'.putObj l (.loop { state := .ready, pending := none, fn := f, tmps := a.tmps, params := ps, assign := assign, body := body, defers := D })) := by
  generalize hrd : (Obj.loop { state := .ready, pending := none, fn := f, tmps := a.tmps, params := ps, assign := assign, body := body, defers := D }) = rdy at hrec ⊢
  have hlw : l < w.heap.size := (Array.getElem?_eq_some_iff.1 hrec).1
  have hA := argSt_ok hs hl hr hp
  have hD := Tmpl.dec_simI hd hA
  have hbound : ∀ k o, look (encObjs (fun j => j) tin.objs 0 x.2.1) k = some o → ∃ key o', look kb k = some key ∧ look st.ar key = some o' ∧ (o.owned = true → o'.owned = true) := by
    have hb := dec_bound hd hA
    exact hb
  have hn2 : (argSt ps.toList xs st).n = n := hn
  have hshpo : ∀ g ∈ shpList, ¬ (fun b => ∃ k o L, look (encObjs (fun j => j) tin.objs 0 x.2.1) k = some o ∧ o.owned = true ∧ under kb ι k = some L ∧ 0 < L.cp ∧ L.b = b) g := by
    intro g hg hq
    obtain ⟨k, o, L, q1, q2, q3, q4, q5⟩ := hq
    obtain ⟨key, o', r1, r2, r3⟩ := hbound k o q1
    rw [under_of r1] at q3
    exact hs.shpOwn hg r2 (r3 q2) q3 q4 q5
  have hloop : ∀ g ∈ shpList, l ≠ g := by
    intro g hg e
    obtain ⟨m, hm⟩ := hs.shp g hg
    subst e
    unfold World.cell? at hm
    simp only [hrec, ← hrd] at hm
    simp at hm
  let Gc : Base := { w0 := w, ok0 := ok, own0 := fun b => ∃ k o L, look (encObjs (fun j => j) tin.objs 0 x.2.1) k = some o ∧ o.owned = true ∧ under kb ι k = some L ∧ 0 < L.cp ∧ L.b = b, B := G.B, hB := Nat.le_trans G.hB hs.heap, loc := under kb ι, shp := hs.shp, shpo := hshpo }
  have hG : SimI Gc (under kb ι) ok (tin.enc n x) ⟨(ps.zip vs).foldl (fun t (p, v) => t.setIfInBounds p v) a.tmps, []⟩ w := by
    rw [hn2] at hD
    exact { size := hD.size
            dfn := hD.dfn
            dfs := hD.dfs
            tags := by
              intro k j hk
              have hk : look tin.tags k = some j := hk
              have hall : ∀ (l : List (Nat × Nat)), (l.all fun p => Nat.beq p.1 p.2 && (match tin.objs[p.1]? with | some .dead => false | some _ => true | none => false)) = true → look l k = some j →
                  k = j ∧ ∃ p, tin.objs[k]? = some p ∧ p ≠ .dead := by
                intro l
                induction l with
                | nil => intro _ h; cases h
                | cons q l ih =>
                  intro h1 h2
                  obtain ⟨q1, q2⟩ := q
                  simp only [List.all_cons, Bool.and_eq_true] at h1
                  rw [look_cons] at h2
                  split at h2
                  · rename_i e1; injection h2 with h2; subst h2; subst e1
                    refine ⟨beq_eq h1.1.1, ?_⟩
                    have h3 := h1.1.2
                    cases hq : tin.objs[q1]? with
                    | none => simp only [hq] at h3; cases h3
                    | some p =>
                      refine ⟨p, rfl, fun e => ?_⟩
                      subst e
                      simp only [hq] at h3; cases h3
                  · exact ih h1.2 h2
              obtain ⟨rfl, p, hp1, hp2⟩ := hall _ ht hk
              refine ⟨rfl, ?_⟩
              obtain ⟨o, ho1, ho2⟩ := objs_get tin.objs 0 x.2.1 k p hp1 hp2
              rw [Nat.zero_add] at ho1
              exact objOK_place (hD.objs k o ho1) ho2
            slots := hD.slots
            objs := hD.objs
            inj := hD.inj
            apart := fun k o L hk ho hl hc => ⟨(hD.apart k o L hk ho hl hc).1, .inl ⟨k, o, L, hk, ho, hl, hc, rfl⟩⟩
            fresh := hD.fresh
            os := rfl, tape := rfl, output := rfl
            heap := Nat.le_refl _
            block := fun _ _ _ => rfl
            okin := fun _ h => h
            oksub := fun _ h => .inl h
            oklt := hs.oklt }
  have hnown : ¬ Gc.own0 l := by
    rintro ⟨k, o, L, q1, q2, q3, q4, q5⟩
    obtain ⟨key, o', r1, r2, r3⟩ := hbound k o q1
    rw [under_of r1] at q3
    exact hfree.2 key o' L r2 (r3 q2) q3 q4 q5
  have hlN : l < Gc.N := hlw
  -- the base with the record busy
  obtain ⟨bsy, hbsy⟩ : ∃ o, o = Obj.loop { state := .busy, pending := none, fn := f, tmps := a.tmps, params := ps, assign := assign, body := body, defers := D } := ⟨_, rfl⟩
  have hsh2 : ShpW (w.putObj l bsy) := by
    intro g hg
    obtain ⟨m, hm⟩ := hs.shp g hg
    exact ⟨m, (cell_of_heap (a := ⟨g, 0, none⟩) (World.putObj_heap_other (fun e => hloop g hg e.symm))).trans hm⟩
  let Gb : Base := { w0 := w.putObj l bsy, ok0 := ok, own0 := Gc.own0, B := G.B, hB := by rw [World.putObj_size]; exact Gc.hB, loc := Gc.loc, shp := hsh2, shpo := hshpo }
  have toB : ∀ {st' a' w'}, Sim Gc st' a' w' → Sim Gb st' a' (w'.putObj l bsy) := by
    rintro st' a' w' ⟨ι', ok', h'⟩
    refine ⟨ι', ok', h'.swap (h'.free hfree.1 hnown hlN) (Nat.lt_of_lt_of_le hlN h'.heap) rfl rfl rfl rfl rfl rfl rfl (World.putObj_size) (fun b hb => World.putObj_heap_other hb) (fun h1 _ => World.putObj_heap_same h1)⟩
  have hlNb : l < Gb.N := by show l < (w.putObj l bsy).heap.size; rw [World.putObj_size]; exact hlw
  have toC : ∀ {ι' ok' st' a' w'}, SimI Gb ι' ok' st' a' w' → SimI Gc ι' ok' st' a' (w'.putObj l rdy) := by
    intro ι' ok' st' a' w' h'
    refine h'.swap (h'.free hfree.1 hnown hlNb) (Nat.lt_of_lt_of_le hlNb h'.heap) rfl rfl rfl rfl rfl rfl rfl (World.putObj_size).symm (fun b hb => (World.putObj_heap_other hb).symm) (fun h1 _ => hrec)
  obtain ⟨st1, xo, st2, r1, r2, r3⟩ := hR x y hy
  have hyield := run_yield (P := P) (args := vs) (by rw [hrec, ← hrd]) hps
  refine ⟨f, _, assign, body, hyield, roundIn_of_wpIn trivial ?_⟩
  refine r1 Gc _ w l _ ⟨_, _, hG⟩ ?_
  rintro ex a1 w1 ⟨rfl, hs1⟩
  have hrec1 : w1.heap[l]? = some rdy := by
    obtain ⟨ι1, ok1, q⟩ := hs1
    rw [q.block l hlN hnown]; exact hrec
  refine ⟨w1.putObj l bsy, ?_, ?_⟩
  · have := run_beginRound (P := P) (by rw [hrec1, ← hrd]) rfl
    rw [hbsy]; exact this
  refine r2 Gb a1 _ l _ (toB hs1) ?_
  intro ex a2 w2 hx
  have hx := r3 Gb ex a2 w2 hx
  obtain ⟨xk, t, z, e1, e2, hK, hsel⟩ := rcout_out (n := n) hk
  have hx := hsel Gb ex a2 w2 hx
  obtain ⟨j, hj⟩ := hjump xk _ hK
  -- the end, from a state that is told
  have fin : ∀ {ι2 ok2}, SimI Gb ι2 ok2 (t.enc n z) a2 w2 → ∃ v w', (Instr.endRound l j).run P w2 = .ok v w' ∧ (∃ xk j st' ι' ok', jumpOf xk = some j ∧ K xk st' = some r ∧ Ending.returned v = .returned (.bool j.isNone) ∧
      w'.heap[l]? = some (.loop { state := if j.isNone then .ready else .done, pending := j, fn := f, tmps := a.tmps, params := ps, assign := assign, body := body, defers := D }) ∧ SimI G ι' ok' st' a (w'.putObj l rdy)) := by
    intro ι2 ok2 h2
    have hrec2 : w2.heap[l]? = some bsy := by
      rw [h2.block l hlNb hnown]; exact World.putObj_heap_same hlw
    have hl2 : l < w2.heap.size := (Array.getElem?_eq_some_iff.1 hrec2).1
    have hend := run_endRound (P := P) j (by rw [hrec2, hbsy])
    have h3 := toC h2
    have h4 := h3.one (v := .v (.bool true)) (cv := .bool true) (.v _)
    have hdf : a2.defers = [] := List.length_eq_zero_iff.1 (by rw [h2.dfn]; show (encs (fun j => j) t.df z.2.2).length = 0; clear hK hsel hx h2 h3 h4; obtain ⟨tts, tobjs, ttags, tdf⟩ := t; simp only at e2; subst e2; rfl)
    rw [hdf] at h4
    let t1 : Tmpl := ⟨[(0, .bool)], t.objs, t.tags, []⟩
    let z1 : t1.T := ((true, ()), z.2.1, ())
    have hc1 : (t.enc n z).one (.v (.bool true)) = t1.enc 1 z1 := by
      clear hK hsel hx h2 h3 h4
      obtain ⟨tts, tobjs, ttags, tdf⟩ := t
      simp only at e1 e2; subst e1; subst e2; rfl
    rw [hc1] at h4
    obtain ⟨ι', ok', g1, _⟩ := after_call (na := n) (x := x) (tin := tin) (w := w) (Gc := Gc) (t := t1) (y := z1) (v := .v (.bool true)) hs hbound rfl rfl rfl rfl rfl h4 rfl
    refine ⟨_, _, hend, xk, j, coutSt kb st t z, ι', ok', hj, hK, rfl, World.putObj_heap_same hl2, ?_⟩
    rw [putObj_putObj]
    exact g1
  cases xk with
  | normal =>
    injection hj with hj; subst hj
    obtain ⟨rfl, ι2, ok2, h2⟩ := hx
    exact fin h2
  | ret =>
    injection hj with hj; subst hj
    obtain ⟨rfl, ι2, ok2, h2⟩ := hx
    exact fin h2
  | exit i =>
    injection hj with hj; subst hj
    obtain ⟨rfl, ι2, ok2, h2⟩ := hx
    exact fin h2
  | goto i => cases hj
  | pan => cases hj
end Go.Ev

namespace Go.Ev
set_option linter.unusedSimpArgs false
set_option linter.unusedVariables false
/-! ### a range over a function -/
/-- what an iterator hands to yield, one after the other, whatever the rounds do -/
def ItOK (P : Program) (gf : FuncId) {α : Type} (enc : α → Array Value) (it : List AV → Option (Bool × List α)) : Prop :=
  (∃ fnc, P.funcs[gf]? = some fnc ∧ fnc.body.isNone = false ∧ (fnc.name == "runtime.NumGoroutine") = false) ∧
  ∀ caps xs, it caps = some (true, xs) → ∀ (w : World) (ok : Nat → Prop) (B : Nat) (lb : Array Value), (∀ b, ok b → b < w.heap.size) → lb.size = caps.length →
    (∀ i, i < caps.length → Rep w ok B (fun _ => none) (caps.getD i default) (lb.getD i undef)) →
    ∀ (l : Nat) (J Jx : List α → World → Prop), (∀ pre A A', J pre A → Grown A A' → J pre A') → (∀ pre A A', Jx pre A → Grown A A' → Jx pre A') →
      (∀ pre W, J pre W → ∀ b, ok b → W.heap[b]? = w.heap[b]?) →
      (∀ pre e post W, xs = pre ++ e :: post → J pre W → YieldAt Fence.wide 0 P l (enc e) W fun r W' => (r = .returned (.bool true) ∧ J (pre ++ [e]) W') ∨ (r = .returned (.bool false) ∧ Jx (pre ++ [e]) W')) →
      J [] w → Calls P gf (#[.func (.yield l) #[] #[]] ++ lb) w fun r W' => (∃ v, r = .returned v) ∧ (J xs W' ∨ ∃ pre post, xs = pre ++ post ∧ Jx pre W')
/-- round by round -/
def rfold {α A B : Type} (s : A → α → Option (A ⊕ B)) : List α → A → Option (A ⊕ B)
  | [], a => some (.inl a)
  | e :: r, a => match s a e with
    | none => none
    | some (.inl a') => rfold s r a'
    | some (.inr b) => some (.inr b)
theorem rfold_append {α A B : Type} (s : A → α → Option (A ⊕ B)) : ∀ (l r : List α) (a : A), rfold s (l ++ r) a = (match rfold s l a with
    | none => none
    | some (.inl a') => rfold s r a'
    | some (.inr b) => some (.inr b))
  | [], r, a => rfl
  | e :: l, r, a => by
    simp only [List.cons_append, rfold]
    cases h : s a e with
    | none => rfl
    | some z => cases z with
      | inl a' => exact rfold_append s l r a'
      | inr b => rfl
def decRound (n : Nat) (tin : Tmpl) (outs : Outs) (xk : XK) (st : St) : Option (tin.T ⊕ ESum outs) :=
  bif Nat.beq st.n n then (match xk with
    | .normal => match decT tin st with | some x => some (.inl x) | none => none
    | .ret => match decOuts outs .ret st with | some y => some (.inr y) | none => none
    | .exit i => match decOuts outs (.exit i) st with | some y => some (.inr y) | none => none
    | _ => none) else none
def rangeEval {α : Type} (n : Nat) (tin tinR : Tmpl) (outsR : Outs) (fnR : tinR.T → Option (ESum outsR)) (outs : Outs) (ps : List Nat) (encA : α → List AV) (x : tin.T) (e : α) : Option (tin.T ⊕ ESum outs) :=
  match tinR.free.dec (argSt ps (encA e) (tin.enc n x)) with
  | some p => (fnR p.1).bind fun y => rcoutK p.2 (tin.enc n x) outsR y (decRound n tin outs)
  | none => none
/-- the mark for the rounds' deferred calls -/
def markSt (st : St) : St := { st with nk := st.nk + 1, ar := (st.nk, .coll) :: st.ar, df := .ptr st.nk 0 :: st.df }
def outK0 {R : Type} (n : Nat) : (outs : Outs) → ESum outs → (X → St → Option R) → Option R
  | [], _, _ => none
  | o :: r, y, K => outK n (o :: r) y K
theorem outK0_some {R : Type} {n : Nat} : ∀ {outs : Outs} {y : ESum outs} {K : X → St → Option R} {r : R}, outK0 n outs y K = some r → outK n outs y K = some r
  | [], _, _, _, h => by cases h
  | _ :: _, _, _, _, h => h
def rangeRun {R α : Type} (n : Nat) (gf : FuncId) (tin : Tmpl) (outs : Outs) (it : List AV → Option (Bool × List α)) (fold : List α → tin.T → Option (tin.T ⊕ ESum outs)) (g : Operand) (st : St) (K : X → St → Option R) : Option R :=
  bif Nat.beq st.n n then (match opnd st g with
    | some (.fn (.func f) [] caps) => bif Nat.beq f gf then (match closeAVs 20 caps st with
      | some (caps', st0) => match it caps' with
        | some xs => bif xs.1 then (match decT tin st0 with
          | some x0 => (fold xs.2 x0).bind fun z => Sum.elim (fun x => K .normal (markSt (tin.enc n x))) (fun y => outK0 n outs y fun x st => K x (markSt st)) z
          | none => none) else none
        | none => none
      | none => none) else none
    | _ => none) else none
def zX {tin : Tmpl} {outs : Outs} (n : Nat) : tin.T ⊕ ESum outs → X × St
  | .inl x => (.normal, tin.enc n x)
  | .inr y => outP n outs y
theorem putObj_same {w : World} {l : Nat} {o : Obj} (h : w.heap[l]? = some o) : w.putObj l o = w := by
  have : w.heap.setIfInBounds l o = w.heap := by
    apply Array.ext
    · simp
    · intro i h1 h2
      rw [Array.getElem_setIfInBounds]
      split
      · rename_i e; subst e
        obtain ⟨_, h⟩ := Array.getElem?_eq_some_iff.1 h
        exact h.symm
      · rfl
  unfold World.putObj
  rw [this]
/-- the statement is left: the record and the mark stay behind -/
theorem mark_sim {G : Base} {ι : Loci} {ok : Nat → Prop} {st0 : St} {a : Act} {w1 : World} (h : SimI G ι ok st0 a w1) {D l : Nat} (hD : ¬ ok D) (hDo : ¬ ownedBy ι st0 D) (hDN : D < w1.heap.size) (hl : ¬ ok l) (hlo : ¬ ownedBy ι st0 l) (hlN : l < w1.heap.size)
    (hne : D ≠ l) (hGD : G.N ≤ D) (hGl : G.N ≤ l) (hd : w1.heap[D]? = some (.deferred (some []))) {st' : St} {w' : World} (o : Obj) (hs : Sim h.reb st' a w') :
    Sim G (markSt st') { a with defers := { target := .collected D, args := #[] } :: a.defers } (w'.putObj l o) := by
  obtain ⟨ι', ok', hs⟩ := hs
  have fD := hs.free hD hDo hDN
  have fl := hs.free hl hlo hlN
  have hw : w'.heap[D]? = some (.deferred (some [])) := by rw [hs.block D hDN hDo]; exact hd
  have h1 := (h.unbase hs).other (o := o) fl (Nat.lt_of_lt_of_le hlN hs.heap) (.inr hGl)
  have hw2 : (w'.putObj l o).heap[D]? = some (.deferred (some [])) := (World.putObj_heap_other hne).trans hw
  have h2 := h1.newKey (L := ⟨D, 0, 0, 1⟩) (o := .coll) ⟨_, Loci.set_same _ _ _, rfl, hw2⟩ (fun k o L hk ho hl hc => fD.2 k o L hk ho hl hc) ⟨fD.1, .inr hGD⟩
  refine ⟨_, ok', { h2 with dfn := ?_, dfs := ?_ }⟩
  · show (a.defers.length + 1) = (st'.df.length + 1)
    rw [hs.dfn]
  · intro i x d hx hd
    have hx : ((AV.ptr st'.nk 0) :: st'.df)[i]? = some x := hx
    have hd : (({ target := .collected D, args := #[] } : Deferred) :: a.defers)[i]? = some d := hd
    cases i with
    | zero =>
      simp only [List.getElem?_cons_zero, Option.some.injEq] at hx hd
      subst hx; subst hd
      exact ⟨.pointer (some ⟨D, 0, none⟩), (), .ptr (Loci.set_same _ _ _), rfl⟩
    | succ i =>
      simp only [List.getElem?_cons_succ] at hx hd
      exact h2.dfs i x d hx hd
theorem range_lok {R α : Type} {P : Program} {n gf : Nat} {g : Operand} {ps : Array Nat} {assign body : Code} {tin tinR : Tmpl} {outsR : Outs} {fnR : tinR.T → Option (ESum outsR)} {outs : Outs} {enc : α → Array Value} {encA : α → List AV}
    {it : List AV → Option (Bool × List α)} {s : tin.T → α → Option (tin.T ⊕ ESum outs)} (hit : ItOK P gf enc it) (henc : ∀ e w ok B ι, (encA e).length = (enc e).size ∧ ∀ i, i < (encA e).length → Rep w ok B ι ((encA e).getD i default) ((enc e).getD i undef))
    (hps : ∀ e, (enc e).size = ps.size) (hp : (ps.toList.all fun p => Nat.blt p n) = true) (hR : RoundOK P assign body n tinR outsR fnR) (ht : tagLive tinR = true)
    (h : ∀ x e, rangeEval n tin tinR outsR fnR outs ps.toList encA x e = s x e) : LOK (R := R) P (rangeRun n gf tin outs it (rfold s) g) (.rangeFunc g ps assign body) := by
  intro st K r hr
  unfold rangeRun at hr
  obtain ⟨hn, hr⟩ := cond_none hr
  have hn := beq_eq hn
  split at hr
  rotate_left; · cases hr
  rename_i f caps hg
  obtain ⟨hf, hr2⟩ := cond_none hr
  clear hr
  have hf := beq_eq hf
  subst hf
  split at hr2
  rotate_left; · cases hr2
  rename_i caps' st0 hcl
  split at hr2
  rotate_left; · cases hr2
  rename_i xs hxs0
  obtain ⟨c, xs⟩ := xs
  obtain ⟨hc, hr3⟩ := cond_none hr2
  clear hr2
  have hxs : it caps' = some (true, xs) := by
    have hc : c = true := hc
    rw [hxs0, hc]
  clear hxs0 hc
  have hr2 := hr3
  clear hr3
  simp only at hr2
  split at hr2
  rotate_left; · cases hr2
  rename_i x0 hx0
  cases hz : rfold s xs x0 with
  | none => rw [hz] at hr2; cases hr2
  | some z =>
  rw [hz] at hr2
  have hK : K (zX (tin := tin) n z).1 (markSt (zX (tin := tin) n z).2) = some r := by
    cases z with
    | inl x => exact hr2
    | inr y =>
      have hr : outK n outs y (fun x st => K x (markSt st)) = some r := outK0_some hr2
      rw [outK_eq] at hr; exact hr
  refine ⟨_, _, ?_, hK⟩
  clear hr2 hK
  intro G a w Q hs hq
  obtain ⟨ι, ok, hs⟩ := hs
  obtain ⟨first', lb, e1, e2, e3, e4⟩ := rep_fn_inv (hs.opnd hg)
  have e2 : first' = #[] := Array.eq_empty_of_size_eq_zero e2
  subst e2
  obtain ⟨hcl1, ok0, hs0, hcr, hok⟩ := (close_ok 20).2 _ _ _ _ hcl G ι ok a w (fun i => lb.getD i undef) hs e4
  have hn0 : st0.n = n := by rw [← hs0.size, hs.size]; exact hn
  refine (wpIn_wide (n := 0)).1 (wpIn_rangeFunc ?_)
  intro fn _
  obtain ⟨rec, hrec⟩ : ∃ rec : LoopState → Option Code → Loop, rec = fun st pe => { state := st, pending := pe, fn, tmps := a.tmps, params := ps, assign, body, defers := w.heap.size } := ⟨_, rfl⟩
  obtain ⟨w1, hw1⟩ : ∃ w1, (w.alloc (.deferred (some []))).alloc (.loop (rec .ready none)) = w1 := ⟨_, rfl⟩
  have hL1 : w1.heap[w.heap.size + 1]? = some (.loop (rec .ready none)) := by
    rw [← hw1]; have := World.alloc_heap_new (w.alloc (.deferred (some []))) (.loop (rec .ready none)); rwa [World.size_alloc] at this
  have hD1 : w1.heap[w.heap.size]? = some (.deferred (some [])) := by
    rw [← hw1, heap_alloc_old (by simp)]; exact World.alloc_heap_new w _
  have hg1 : Grown w w1 := by
    rw [← hw1]
    refine ⟨rfl, rfl, rfl, by simp; omega, fun b hb => ?_⟩
    rw [heap_alloc_old (by simp; omega), heap_alloc_old hb]
  have hsz : w1.heap.size = w.heap.size + 2 := by rw [← hw1]; simp
  have hs1 := hs0.grow hg1
  have nokD : ∀ b, w.heap.size ≤ b → ¬ ok0 b := fun b hb ho => absurd (hs0.oklt b ho) (Nat.not_lt.2 hb)
  have nownD : ∀ b, w.heap.size ≤ b → ¬ ownedBy ι st0 b := by
    rintro b hb ⟨k, o, L, q1, q2, q3, q4, q5⟩
    have := obj_block (hs0.objs k o q1) q3 q4 q2
    omega
  have hGN : G.N ≤ w.heap.size := hs.heap
  have hDw1 : w.heap.size < w1.heap.size := by omega
  have hlw1 : w.heap.size + 1 < w1.heap.size := by omega
  have hDl : w.heap.size ≠ w.heap.size + 1 := by omega
  have hGl : G.N ≤ w.heap.size + 1 := by omega
  -- the invariant
  have hlN : w.heap.size + 1 < hs1.reb.N := by show _ < w1.heap.size; omega
  let J : List α → World → Prop := fun pre W => ∃ x, rfold s pre x0 = some (.inl x) ∧ Sim hs1.reb (tin.enc n x) a W
  let Jx : List α → World → Prop := fun pre W => ∃ (y : ESum outs) (c : Code), rfold s pre x0 = some (.inr y) ∧ ((outP n outs y).1 = .ret ∧ c = .ret ∨ ∃ i, (outP n outs y).1 = .exit i ∧ c = .exit i) ∧
    W.heap[w.heap.size + 1]? = some (.loop (rec .done (some c))) ∧ Sim hs1.reb (outP n outs y).2 a (W.putObj (w.heap.size + 1) (.loop (rec .ready none)))
  have hrdy : ∀ {st' W}, Sim hs1.reb st' a W → W.heap[w.heap.size + 1]? = some (.loop (rec .ready none)) := by
    rintro st' W ⟨ι', ok', h'⟩
    rw [h'.block _ hlN (nownD _ (Nat.le_succ _))]; exact hL1
  have hJg : ∀ pre A A', J pre A → Grown A A' → J pre A' := by
    rintro pre A A' ⟨x, q1, ι', ok', q2⟩ hg
    exact ⟨x, q1, ι', ok', q2.grow hg⟩
  have hJxg : ∀ pre A A', Jx pre A → Grown A A' → Jx pre A' := by
    rintro pre A A' ⟨y, c, q1, q2, q3, ι', ok', q4⟩ hg
    have hlt := (Array.getElem?_eq_some_iff.1 q3).1
    refine ⟨y, c, q1, q2, (hg.block _ hlt).trans q3, ι', ok', q4.grow ⟨hg.os, hg.tape, hg.output, by rw [World.putObj_size, World.putObj_size]; exact hg.size, fun b hb => ?_⟩⟩
    rw [World.putObj_size] at hb
    by_cases e : b = w.heap.size + 1
    · subst e
      rw [World.putObj_heap_same hlt, World.putObj_heap_same (Nat.lt_of_lt_of_le hlt hg.size)]
    · rw [World.putObj_heap_other e, World.putObj_heap_other e]; exact hg.block b hb
  have hJk : ∀ pre W, J pre W → ∀ b, ok0 b → W.heap[b]? = w1.heap[b]? := by
    rintro pre W ⟨x, q1, ι', ok', q2⟩ b hb
    exact q2.block b (hs1.oklt b hb) (fun ⟨k, o, L, r1, r2, r3, r4, r5⟩ => (hs1.apart k o L r1 r2 r3 r4).1 (r5 ▸ hb))
  have hJ0 : J [] w1 := ⟨x0, rfl, by have := decT_sim hx0 ⟨ι, ok0, hs1.rebase⟩; rw [hn0] at this; exact this⟩
  have hround : ∀ pre e post W, xs = pre ++ e :: post → J pre W → YieldAt Fence.wide 0 P (w.heap.size + 1) (enc e) W fun r W' => (r = .returned (.bool true) ∧ J (pre ++ [e]) W') ∨ (r = .returned (.bool false) ∧ Jx (pre ++ [e]) W') := by
    rintro pre e post W hpre ⟨x, q1, q2⟩
    have hrW := hrdy q2
    obtain ⟨ι2, ok2, q2⟩ := q2
    have hfree := q2.free (l := w.heap.size + 1) (nokD _ (Nat.le_succ _)) (nownD _ (Nat.le_succ _)) hlN
    -- the step is defined
    have hz2 := hz
    rw [hpre, rfold_append, q1] at hz2
    simp only [rfold] at hz2
    cases hse : s x e with
    | none => rw [hse] at hz2; cases hz2
    | some z2 =>
    have hev := h x e
    rw [hse] at hev
    unfold rangeEval at hev
    split at hev
    rotate_left; · cases hev
    rename_i p hdec
    cases hy : fnR p.1 with
    | none => rw [hy] at hev; cases hev
    | some y =>
    rw [hy] at hev
    have hev : rcoutK p.2 (tin.enc n x) outsR y (decRound n tin outs) = some z2 := hev
    have hrW' : W.heap[w.heap.size + 1]? = some (.loop { state := .ready, pending := none, fn := fn, tmps := a.tmps, params := ps, assign := assign, body := body, defers := w.heap.size }) := by rw [hrW, hrec]
    have hjump : ∀ xk st', decRound n tin outs xk st' = some z2 → ∃ j, jumpOf xk = some j := by
      intro xk st' hh
      cases xk with
      | normal => exact ⟨_, rfl⟩
      | ret => exact ⟨_, rfl⟩
      | exit i => exact ⟨_, rfl⟩
      | goto i => obtain ⟨_, hh⟩ := cond_none hh; cases hh
      | pan => obtain ⟨_, hh⟩ := cond_none hh; cases hh
    obtain ⟨fn', tmps', assign', body', y1, y2⟩ := round_call (x := p.1) (kb := p.2) hR ht q2 rfl (ps := ps) (xs := encA e) (vs := enc e) (henc e W ok2 hs1.reb.B ι2).1 (hps e) (henc e W ok2 hs1.reb.B ι2).2
      (fun q hq => by
        have := List.all_eq_true.1 hp q hq
        show q < n
        simpa [Nat.blt_eq] using this) hdec hy hev hfree hrW' hjump
    refine ⟨fn', tmps', assign', body', y1, y2.mono ?_⟩
    rintro r' w' ⟨xk, j, st', ι', ok', hj, hk2, rfl, hh, hsim⟩
    obtain ⟨en, hk2⟩ := cond_none hk2
    have en := beq_eq en
    have hrr : (Obj.loop { state := .ready, pending := none, fn := fn, tmps := a.tmps, params := ps, assign := assign, body := body, defers := w.heap.size }) = .loop (rec .ready none) := by rw [hrec]
    rw [hrr] at hsim
    cases xk with
    | normal =>
      injection hj with hj; subst hj
      have hk2 : (match decT tin st' with | some x => some (Sum.inl (β := ESum outs) x) | none => none) = some z2 := hk2
      split at hk2
      rotate_left; · cases hk2
      rename_i x' hx'
      injection hk2 with hk2; subst hk2
      refine .inl ⟨rfl, x', ?_, ?_⟩
      · rw [rfold_append, q1]; simp only [rfold, hse]
      · have hh' : w'.heap[w.heap.size + 1]? = some (.loop (rec .ready none)) := by rw [← hrr]; exact hh
        rw [putObj_same hh'] at hsim
        have := decT_sim hx' ⟨ι', ok', hsim⟩
        rw [en] at this; exact this
    | ret =>
      injection hj with hj; subst hj
      have hk2 : (match decOuts outs .ret st' with | some x => some (Sum.inr (α := tin.T) x) | none => none) = some z2 := hk2
      split at hk2
      rotate_left; · cases hk2
      rename_i y' hy'
      injection hk2 with hk2; subst hk2
      have hx := decOuts_sim hy' (G := hs1.reb) (ex := .ret) (a := a) (w := w'.putObj (w.heap.size + 1) (.loop (rec .ready none))) ⟨rfl, ι', ok', hsim⟩
      rw [en] at hx
      have hout : (outP n outs y').1 = .ret ∧ Sim hs1.reb (outP n outs y').2 a (w'.putObj (w.heap.size + 1) (.loop (rec .ready none))) := by
        generalize (outP n outs y').1 = X at hx
        cases X with
        | ret => exact ⟨rfl, hx.2⟩
        | normal => cases hx.1
        | exit i => cases hx.1
        | goto i => cases hx.1
        | pan v => obtain ⟨_, _, _, q, _⟩ := hx; cases q
      refine .inr ⟨rfl, y', .ret, ?_, .inl ⟨hout.1, rfl⟩, ?_, hout.2⟩
      · rw [rfold_append, q1]; simp only [rfold, hse]
      · rw [hrec]; exact hh
    | exit i =>
      injection hj with hj; subst hj
      have hk2 : (match decOuts outs (.exit i) st' with | some x => some (Sum.inr (α := tin.T) x) | none => none) = some z2 := hk2
      split at hk2
      rotate_left; · cases hk2
      rename_i y' hy'
      injection hk2 with hk2; subst hk2
      have hx := decOuts_sim hy' (G := hs1.reb) (ex := .exit i) (a := a) (w := w'.putObj (w.heap.size + 1) (.loop (rec .ready none))) ⟨rfl, ι', ok', hsim⟩
      rw [en] at hx
      have hout : (outP n outs y').1 = .exit i ∧ Sim hs1.reb (outP n outs y').2 a (w'.putObj (w.heap.size + 1) (.loop (rec .ready none))) := by
        generalize (outP n outs y').1 = X at hx
        cases X with
        | exit j => have := hx.1; injection this with this; subst this; exact ⟨rfl, hx.2⟩
        | normal => cases hx.1
        | ret => cases hx.1
        | goto i => cases hx.1
        | pan v => obtain ⟨_, _, _, q, _⟩ := hx; cases q
      refine .inr ⟨rfl, y', .exit i, ?_, .inr ⟨i, hout.1, rfl⟩, ?_, hout.2⟩
      · rw [rfold_append, q1]; simp only [rfold, hse]
      · rw [hrec]; exact hh
    | goto i => cases hj
    | pan => cases hj
  -- the call
  have hcaps : ∀ i, i < caps'.length → Rep w1 ok0 G.B (fun _ => none) (caps'.getD i default) (lb.getD i undef) := fun i hi => (hcr i hi).mono (fun b hb => hg1.block b (hs0.oklt b hb)) (fun _ h => h) (fun _ _ h => h)
  have hcall := hit.2 caps' xs hxs w1 ok0 G.B lb (fun b hb => hs1.oklt b hb) (by rw [e3, hcl1]) hcaps (w.heap.size + 1) J Jx hJg hJxg hJk hround hJ0
  refine ⟨w.heap.size + 1, [{ target := .collected w.heap.size, args := #[] }], w1, { target := .fn (.func f) lb, args := #[.func (.yield (w.heap.size + 1)) #[] #[]] }, w1, f,
    #[.func (.yield (w.heap.size + 1)) #[] #[]] ++ lb, w1, ?_, ?_, fun _ _ => trivial, ?_, ?_, ?_⟩
  · rw [← hw1, hrec]; exact run_enterLoop_outer _ _ _ _ _
  · unfold resolve
    have hm : Array.map a.eval #[Operand.const (Value.func (Fn.yield (w.heap.size + 1)) #[] #[])] = #[.func (.yield (w.heap.size + 1)) #[] #[]] := by simp; rfl
    simp only [e1, hm]; rfl
  · obtain ⟨fnc, hf1, hf2, hf3⟩ := hit.1
    show (callFunc f (#[.func (.yield (w.heap.size + 1)) #[] #[]] ++ lb)).run P w1 = _
    unfold callFunc
    have : (program).run P w1 = .ok P w1 := rfl
    rw [run_ok this]
    simp only [hf1]
    rw [if_neg (by simp [hf3]), if_neg (by simp [hf2])]; rfl
  · intro h; cases h
  · refine callsIn_wide.2 (Calls.mono hcall ?_)
    rintro r' W' ⟨⟨v, rfl⟩, hJ⟩
    rcases hJ with ⟨x, q1, q2⟩ | ⟨pre, post, hpre, y, c, q1, q2, q3, q4⟩
    · rw [hz] at q1; injection q1 with q1; subst q1
      have hr := hrdy q2
      have hend := run_endLoop (P := P) hr (by rw [hrec]; simp)
      refine ⟨_, _, hend, ?_⟩
      have hsim := mark_sim hs1 (nokD _ (Nat.le_refl _)) (nownD _ (Nat.le_refl _)) hDw1 (nokD _ (Nat.le_succ _)) (nownD _ (Nat.le_succ _)) hlw1 hDl hGN hGl hD1 (.loop { rec .ready none with state := .exhausted }) q2
      simp only [hrec] at hsim ⊢
      exact hq .normal _ _ ⟨rfl, hsim⟩
    · have hz2 : rfold s xs x0 = some (.inr y) := by rw [hpre, rfold_append, q1]
      rw [hz] at hz2; injection hz2 with hz2; subst hz2
      have hend := run_endLoop (P := P) q3 (by rw [hrec]; simp)
      refine ⟨_, _, hend, ?_⟩
      have hsim := mark_sim hs1 (nokD _ (Nat.le_refl _)) (nownD _ (Nat.le_refl _)) hDw1 (nokD _ (Nat.le_succ _)) (nownD _ (Nat.le_succ _)) hlw1 hDl hGN hGl hD1 (.loop { rec .done (some c) with state := .exhausted }) q4
      rw [putObj_putObj] at hsim
      simp only [hrec] at hsim ⊢
      have hq : ∀ ex a' w', XSim G (outP n outs y).1 (markSt (outP n outs y).2) ex a' w' → Q ex a' w' := hq
      rcases q2 with ⟨h1, rfl⟩ | ⟨i, h1, rfl⟩
      · rw [h1] at hq
        exact wpIn_ret (hq .ret _ _ ⟨rfl, hsim⟩)
      · rw [h1] at hq
        exact wpIn_exit (hq (.exit i) _ _ ⟨rfl, hsim⟩)
end Go.Ev

namespace Go.Ev
set_option linter.unusedSimpArgs false
set_option linter.unusedVariables false
/-! ### the end of a function that holds ranges over functions -/
def collectSt : List AV → St → Option St
  | [], st => some { st with df := [] }
  | .ptr k _ :: r, st => match look st.ar k with
    | some .coll => collectSt r { st with ar := (k, .dead) :: st.ar }
    | _ => none
  | _ :: _, _ => none
def MarkRel (ι : Loci) : List AV → List Deferred → Prop
  | [], [] => True
  | .ptr k _ :: r, d :: ds => (∃ L, ι k = some L ∧ d = { target := .collected L.b, args := #[] }) ∧ MarkRel ι r ds
  | _, _ => False
theorem markRel_of {w : World} {ok : Nat → Prop} {B : Nat} {ι : Loci} : ∀ (dl : List AV) (st st' : St), collectSt dl st = some st' → ∀ ds : List Deferred, ds.length = dl.length → (∀ (i : Nat) (x : AV) (d : Deferred), dl[i]? = some x → ds[i]? = some d → DefRep w ok B ι x d) → MarkRel ι dl ds
  | [], st, st', h, [], hl, hr => trivial
  | [], st, st', h, d :: ds, hl, hr => by simp at hl
  | x :: dl, st, st', h, [], hl, hr => by simp at hl
  | x :: dl, st, st', h, d :: ds, hl, hr => by
    cases x with
    | ptr k off =>
      simp only [collectSt] at h
      split at h
      · obtain ⟨v, _, g1, g2⟩ := hr 0 _ _ rfl rfl
        refine ⟨?_, markRel_of dl _ _ h ds (by simpa using hl) (fun i x d hx hd => hr (i + 1) x d hx hd)⟩
        cases g1 with
        | ptr g => exact ⟨_, g, g2⟩
      · cases h
    | _ => simp [collectSt] at h
theorem collect_ok {P : Program} {fn : Func} {R : Ending → World → Prop} {F : Fence} {n : Nat} : ∀ (dl : List AV) (st st' : St), collectSt dl st = some st' → ∀ (G : Base) ι ok a w (ds : List Deferred) (u : FrameMode), SimI G ι ok st a w → MarkRel ι dl ds → u ≠ .run →
    (∀ w', SimI G ι ok st' { a with defers := [] } w' → (∀ b, ok b → w'.heap[b]? = w.heap[b]?) → LeavesIn F n P fn a.tmps R [] u w') → LeavesInM F n P fn a.tmps R ds u w
  | [], st, st', h, G, ι, ok, a, w, [], u, hs, hm, hu, hend => by
    simp only [collectSt] at h
    injection h with h; subst h
    exact hend w { hs with dfn := rfl, dfs := fun i x d hx => by simp at hx } (fun _ _ => rfl)
  | [], st, st', h, G, ι, ok, a, w, d :: ds, u, hs, hm, hu, hend => hm.elim
  | x :: dl, st, st', h, G, ι, ok, a, w, [], u, hs, hm, hu, hend => by
    cases x <;> exact hm.elim
  | x :: dl, st, st', h, G, ι, ok, a, w, d :: ds, u, hs, hm, hu, hend => by
    cases x with
    | ptr k off =>
      simp only [collectSt] at h
      split at h
      · rename_i hk
        obtain ⟨⟨L, hL, rfl⟩, hm⟩ := hm
        obtain ⟨L', h1, h2, h3⟩ := hs.objs k .coll hk
        rw [hL] at h1; injection h1 with h1; subst h1
        have hcp : 0 < L.cp := by omega
        have hap := hs.apart k _ L hk rfl hL hcp
        have hlt : L.b < w.heap.size := (Array.getElem?_eq_some_iff.1 h3).1
        have hkill := hs.kill k
        have hs2 := hkill.other (l := L.b) (o := .deferred none) ⟨hap.1, fun k' o' L2 hk' ho' hl' hc' e => by
          rw [look_cons] at hk'
          split at hk'
          · injection hk' with hk'; subst hk'; cases ho'
          · rename_i hne
            exact hne (hs.inj k k' _ o' L L2 hk hk' rfl ho' hL hl' hcp hc' e.symm)⟩ hlt hap.2
        refine ⟨hu, .inl ⟨L.b, _, rfl, run_takeDeferred h3, ?_⟩⟩
        exact collect_ok dl _ _ h G ι ok a _ ds u hs2 hm hu (fun w2 h2 h3 => hend w2 h2 (fun b hb => (h3 b hb).trans (World.putObj_heap_other (fun e => hap.1 (e ▸ hb)))))
      · cases h
    | _ => simp [collectSt] at h
def decFnM (P : Program) (rs : List ResultVar) (outs : Outs) (x : X) (st : St) : Option (ESum outs) :=
  match collectSt st.df st with
  | some st' => decFn P rs outs x st'
  | none => none
theorem fnM_ok {P : Program} {f : FuncId} {fnc : Func} {c : Code} {na n : Nat} {tin : Tmpl} {outs : Outs} {fn : tin.T → Option (ESum outs)} {E : EvO (ESum outs)} {L : EvL (ESum outs)}
    (hf : P.funcs[f]? = some fnc) (hb : fnc.body = some c) (hn : fnc.ntmps = n) (hna : Nat.ble na n = true) (hE : EOK P E) (hL : LGood P L 1 c)
    (h : ∀ x, evCode E L 1 c (tin.enc n x) (decFnM P fnc.results.toList outs) = fn x) : CallOK P f na tin outs fn := by
  intro x y hy G cargs w hw hsz hs
  have hle : na ≤ n := Nat.le_of_ble_eq_true hna
  rw [← h x] at hy
  obtain ⟨ex, st', hr, hk⟩ := evCode_ok hE c 1 _ _ _ hL hy
  refine (callsIn_wide (n := 0)).1 (callsIn_of_wp_marks hf hb trivial ?_)
  obtain ⟨ι, ok, hs⟩ := hs
  have hs2 : Sim G (tin.enc n x) { tmps := cargs ++ Array.replicate (fnc.ntmps - cargs.size) undef, defers := [] } w := by
    refine ⟨ι, ok, ?_⟩
    exact { hs with
      size := by simp [Tmpl.enc, hn, hsz]; omega
      slots := by
        intro t z hz
        obtain ⟨h1, h2⟩ := hs.slots t z hz
        have h1 : t < na := h1
        refine ⟨Nat.lt_of_lt_of_le h1 hle, ?_⟩
        have e : (cargs ++ Array.replicate (fnc.ntmps - cargs.size) undef).getD t undef = cargs.getD t undef := by
          simp only [Array.getD_eq_getD_getElem?]
          rw [Array.getElem?_append_left (by omega)]
        show Rep w ok G.B ι z ((cargs ++ Array.replicate (fnc.ntmps - cargs.size) undef).getD t undef)
        rw [e]; exact h2 }
  refine wpIn_wide.2 (hr G _ w _ hs2 (fun e' a' w' hx => ?_))
  unfold decFnM at hk
  split at hk
  rotate_left; · cases hk
  rename_i st2 hcol
  obtain ⟨hdf, hk⟩ := cond_none hk
  have ret : ∀ (ι' ok'), SimI G ι' ok' st' a' w' → (match resAVs P st2 fnc.results.toList with
      | some vs => decEnds outs .normal (st2.one (oneOr vs))
      | none => none) = some y → LeavesInM Fence.wide 0 P fnc a'.tmps (EndSim G outs y) a'.defers .returning w' := by
    intro ι' ok' hs' hk
    refine collect_ok _ _ _ hcol G ι' ok' a' w' a'.defers _ hs' (markRel_of _ _ _ hcol _ hs'.dfn hs'.dfs) (by simp) (fun w2 h2 hm2 => ?_)
    split at hk
    · rename_i vs hvs
      obtain ⟨cv, g1, g2⟩ := results_ok (P := P) h2 hvs
      refine ⟨cv, g1, decEnds_sim hk rfl rfl ?_⟩
      exact ⟨_, _, h2.one g2⟩
    · cases hk
  cases ex with
  | normal =>
    obtain ⟨rfl, ι', ok', hs'⟩ := hx
    exact ret ι' ok' hs' hk
  | ret =>
    obtain ⟨rfl, ι', ok', hs'⟩ := hx
    exact ret ι' ok' hs' hk
  | pan v =>
    obtain ⟨ι', ok', cv, rfl, hv, hs'⟩ := hx
    refine collect_ok _ _ _ hcol G ι' ok' a' w' a'.defers _ hs' (markRel_of _ _ _ hcol _ hs'.dfn hs'.dfs) (by simp) (fun w2 h2 hm2 => ?_)
    refine decEnds_sim (k := .pan) hk rfl rfl ?_
    exact ⟨_, _, h2.one (hv.mono hm2 (fun _ h => h) (fun _ _ h => h))⟩
  | exit i => cases hk
  | goto i => cases hk
end Go.Ev
namespace Go.Ev
/-! ### the statement's parts -/
def rangeG : Code → Operand
  | .rangeFunc g _ _ _ => g
  | _ => .const undef
def rangePs : Code → Array Tmp
  | .rangeFunc _ ps _ _ => ps
  | _ => #[]
def rangeAs : Code → Code
  | .rangeFunc _ _ a _ => a
  | _ => .skip
def rangeBd : Code → Code
  | .rangeFunc _ _ _ b => b
  | _ => .skip
theorem LH.range {R α : Type} {P : Program} {body c : Code} {L' : EvL R} {q n gf : Nat} {tin tinR : Tmpl} {outsR : Outs} {fnR : tinR.T → Option (ESum outsR)} {outs : Outs} {enc : α → Array Value} {encA : α → List AV}
    {it : List AV → Option (Bool × List α)} {s : tin.T → α → Option (tin.T ⊕ ESum outs)} (hc : follow (toBits q) body = some (.rangeFunc (rangeG c) (rangePs c) (rangeAs c) (rangeBd c))) (hit : ItOK P gf enc it)
    (henc : ∀ e w ok B ι, (encA e).length = (enc e).size ∧ ∀ i, i < (encA e).length → Rep w ok B ι ((encA e).getD i default) ((enc e).getD i undef))
    (hps : ∀ e, (enc e).size = (rangePs c).size) (hp : ((rangePs c).toList.all fun p => Nat.blt p n) = true) (hR : RoundOK P (rangeAs c) (rangeBd c) n tinR outsR fnR) (ht : tagLive tinR = true)
    (h : ∀ x e, rangeEval n tin tinR outsR fnR outs (rangePs c).toList encA x e = s x e) (hL : LH P body L') : LH P body (consL q (rangeRun n gf tin outs it (rfold s) (rangeG c)) L') :=
  LH.cons hc (range_lok hit henc hps hp hR ht h) hL
end Go.Ev
namespace Go.Ev
/-! ### a region that draws its order, rows given up ahead of it -/
def frzSlots : List Nat → St → St
  | [], st => st
  | i :: r, st => frzSlots r (frzAt st i)
theorem frzSlots_sim {G : Base} {a : Act} {w : World} : ∀ (l : List Nat) {st : St}, Sim G st a w → Sim G (frzSlots l st) a w
  | [], _, h => h
  | i :: r, _, h => frzSlots_sim r (frzAt_sim i h)
def drawRunF {R : Type} (P : Program) (O : FuncId → Option (CallF R)) (l : List Nat) (ops : Array Oper) : St → (X → St → Option R) → Option R := fun st K => drawRun P O ops (frzSlots l st) K
theorem LH.drawF {R : Type} {P : Program} {O : FuncId → Option (CallF R)} (hO : OOK P O) {l : List Nat} {body : Code} {L : EvL R} {q : Nat} (h : isDrawAt q body = true) (hL : LH P body L) : LH P body (consL q (drawRunF P O l (drawOps q body)) L) := by
  unfold isDrawAt at h
  split at h
  · rename_i id ops hf
    have e : drawOps q body = ops := by unfold drawOps; rw [hf]
    rw [e]
    refine LH.cons hf (fun st K r hr => ?_) hL
    obtain ⟨x, st', h1, h2⟩ := drawRun_ok hO (id := id) _ _ _ hr
    exact ⟨x, st', fun G a w Q hs hq => h1 G a w Q (frzSlots_sim l hs) hq, h2⟩
  · cases h
end Go.Ev

/-! Plain helpers: strings as lists of bytes, whole numbers as words of 64 bits. -/
namespace Go.Ev
/-- A string of its bytes. -/
def arr (l : List UInt8) : ByteArray := ⟨⟨l⟩⟩
theorem arr_eta (s : ByteArray) : s = arr s.data.toList := rfl
theorem arr_size (l : List UInt8) : (arr l).size = l.length := rfl
theorem arr_get (l : List UInt8) (i : Nat) : (arr l).data.getD i 0 = l.getD i 0 := by
  simp [arr, Array.getD_eq_getD_getElem?, List.getD_eq_getElem?_getD]
theorem arr_append (a b : List UInt8) : (arr a).append (arr b) = arr (a ++ b) := by
  have : arr a ++ arr b = arr (a ++ b) := by
    apply ByteArray.ext; simp [arr, ByteArray.data_append]
  exact this
theorem arr_extract (l : List UInt8) (i j : Nat) : (arr l).extract i j = arr ((l.drop i).take (j - i)) := ByteArray.extract_mk l i j
theorem arr_extract_size (l : List UInt8) (i : Nat) : (arr l).extract i (arr l).size = arr (l.drop i) := by
  rw [arr_extract, arr_size, ← List.length_drop, List.take_length]
theorem arr_toList (l : List UInt8) : (arr l).toList = l := ByteArray.toList_mk l
theorem wB64 (b : BitVec 64) : IntKind.wrap .i64 (↑b.toNat) = b.toInt := by
  rw [IntKind.wrap_i64, BitVec.toInt_eq_toNat_cond]
  have := b.isLt
  split <;> omega
theorem wB (b : BitVec (IntKind.bits .i64)) : IntKind.wrap .i64 (↑b.toNat) = b.toInt := wB64 b
theorem oB (b : BitVec (IntKind.bits .i64)) : BitVec.ofInt (IntKind.bits .i64) b.toInt = b := BitVec.ofInt_toInt
theorem wrap_id {n : Int} (h : -9223372036854775808 ≤ n) (h' : n ≤ 9223372036854775807) : IntKind.wrap .i64 n = n := by
  rw [IntKind.wrap_i64]; omega
theorem dec_lo (l : List UInt8) (i : Nat) (h : i < l.length) (ha : (l[i]).toNat < 128) : Utf8.decode (arr l) i = ((l[i]).toNat, 1) :=
  decode_ascii (arr l) i h ha
theorem dec_hi (l : List UInt8) (i : Nat) (h : i < l.length) (ha : 128 ≤ (l[i]).toNat) : 128 ≤ (Utf8.decode (arr l) i).1 :=
  (decode_high (arr l) i h ha).1
theorem get_in {α : Type} {l : List α} {i : Nat} (h : i < l.length) : l.get?Internal i = some l[i] := List.getElem?_eq_getElem h
theorem getD_in {α : Type} {l : List α} {i : Nat} {d : α} (h : i < l.length) : l.getD i d = l[i] := by rw [List.getD_eq_getElem?_getD, List.getElem?_eq_getElem h]; rfl
end Go.Ev

/-! What comes in: an argument's reading opened into an abstract value, whatever its type (numbers, bools, strings, slices, structs, one in another). -/
namespace Go.Ev
open Go.Deep
set_option linter.unusedVariables false
def leavesSh : Sh → List Sh
  | .agg l => l
  | s => [s]
mutual
/-- The shape of a type; none, where the layout is not the plain one. -/
def shL (P : Program) : Nat → TypeId → Option Sh
  | 0, _ => none
  | n + 1, t => match P.underlying t with
    | some (.int k) => some (.int k)
    | some .bool => some .bool
    | some .string => some .str
    | some (.slice e) => bif Nat.ble 1 (P.bytesOf e) then (match P.underlying e with
      | some (.int k) => bif Nat.beq (P.cellsOf e) 1 then some (.roI false k) else none
      | some .string => bif Nat.beq (P.cellsOf e) 1 then some (.roS false) else none
      | some _ => match shL P n e with
        | some sh => bif Nat.beq (leavesSh sh).length (P.cellsOf e) && Nat.ble 1 (P.cellsOf e) then some (.roA false sh (P.cellsOf e)) else none
        | none => none
      | none => none) else none
    | some (.struct fs) => match shLs P n fs.toList 0 (P.cellsOf t) with
      | some l => some (.agg l)
      | none => none
    | _ => none
def shLs (P : Program) : Nat → List Field → Nat → Nat → Option (List Sh)
  | 0, _, _, _ => none
  | _ + 1, [], off, tot => bif Nat.beq off tot then some [] else none
  | n + 1, f :: r, off, tot => bif Nat.beq f.offset off then (match shL P n f.type, shLs P n r (off + P.cellsOf f.type) tot with
    | some s, some l => some (leavesSh s ++ l)
    | _, _ => none) else none
end
mutual
/-- An abstract value of a shape, within the form's reach. -/
def Fit : Sh → AV → Prop
  | .int k, y => ∃ n, y = .v (.int k n) ∧ (Lit.int k n).wf = true
  | .bool, y => ∃ b, y = .v (.bool b)
  | .str, y => ∃ s : ByteArray, y = .v (.string s) ∧ s.size ≤ reachBytes
  | .roI nw k, y => ∃ l : List Int, y = .ro nw (.I k l) ∧ l.length ≤ reachBytes ∧ ∀ n ∈ l, (Lit.int k n).wf = true
  | .roS nw, y => ∃ l : List ByteArray, y = .ro nw (.S l) ∧ l.length ≤ reachBytes ∧ ∀ s ∈ l, s.size ≤ reachBytes
  | .roA nw sh sz, y => ∃ l : List AV, y = .ro nw (.A sh sz l) ∧ l.length ≤ reachBytes ∧ ∀ e ∈ l, Fit sh e
  | .agg shs, y => ∃ l : List AV, y = .agg l ∧ Fits shs l
  | .any, _ => False
def Fits : List Sh → List AV → Prop
  | [], [] => True
  | s :: r, y :: l => Fit s y ∧ Fits r l
  | _, _ => False
end
theorem Fits.length : ∀ {shs : List Sh} {l : List AV}, Fits shs l → shs.length = l.length
  | [], [], _ => rfl
  | [], _ :: _, h => h.elim
  | _ :: _, [], h => h.elim
  | _ :: r, _ :: l, h => congrArg (· + 1) (Fits.length (shs := r) (l := l) h.2)
theorem Fits.append : ∀ {a : List Sh} {x : List AV} {b : List Sh} {y : List AV}, Fits a x → Fits b y → Fits (a ++ b) (x ++ y)
  | [], [], _, _, _, h => h
  | [], _ :: _, _, _, h, _ => h.elim
  | _ :: _, [], _, _, h, _ => h.elim
  | _ :: r, _ :: l, _, _, h, h' => ⟨h.1, Fits.append (a := r) (x := l) h.2 h'⟩
mutual
theorem fit_view : ∀ (s : Sh) (y : AV), Fit s y → view s y = y
  | .int k, y, h => by obtain ⟨n, rfl, _⟩ := h; rfl
  | .bool, y, h => by obtain ⟨b, rfl⟩ := h; rfl
  | .str, y, h => by obtain ⟨s, rfl, _⟩ := h; rfl
  | .roI nw k, y, h => by obtain ⟨l, rfl, _⟩ := h; rfl
  | .roS nw, y, h => by obtain ⟨l, rfl, _⟩ := h; rfl
  | .roA nw sh sz, y, h => by obtain ⟨l, rfl, _⟩ := h; rfl
  | .agg shs, y, h => by
    obtain ⟨l, rfl, hl⟩ := h
    show AV.agg (views shs (.agg l) 0) = .agg l
    have := fits_views shs l [] hl
    exact congrArg AV.agg this
  | .any, y, h => h.elim
theorem fits_views : ∀ (shs : List Sh) (l pre : List AV), Fits shs l → views shs (.agg (pre ++ l)) pre.length = l
  | [], [], pre, _ => rfl
  | [], _ :: _, _, h => h.elim
  | _ :: _, [], _, h => h.elim
  | s :: r, y :: l, pre, h => by
    have e : (AV.agg (pre ++ y :: l)).cell pre.length = y := by
      show (pre ++ y :: l).getD pre.length default = y
      rw [List.getD_eq_getElem?_getD, List.getElem?_append_right (Nat.le_refl _), Nat.sub_self]; rfl
    show view s ((AV.agg (pre ++ y :: l)).cell pre.length) :: views r (.agg (pre ++ y :: l)) (pre.length + 1) = y :: l
    rw [e, fit_view s y h.1]
    have := fits_views r l (pre ++ [y]) h.2
    rw [List.append_assoc, List.length_append] at this
    exact congrArg (y :: ·) this
end
/-- The value of these leaves. -/
def mkSh : Sh → List AV → AV
  | .agg _, ys => .agg ys
  | _, ys => ys.headD default
theorem leaf_one {s : Sh} (h : ∀ l, s ≠ .agg l) {ys : List AV} (hf : Fits (leavesSh s) ys) : ∃ y, ys = [y] ∧ Fit s y := by
  have e : leavesSh s = [s] := by cases s <;> first | rfl | exact absurd rfl (h _)
  rw [e] at hf
  match ys, hf with
  | [y], hf => exact ⟨y, rfl, hf.1⟩
theorem mk_fit {s : Sh} {ys : List AV} (hf : Fits (leavesSh s) ys) : Fit s (mkSh s ys) ∧ (mkSh s ys).cells = ys := by
  by_cases h : ∃ l, s = .agg l
  · obtain ⟨l, rfl⟩ := h
    exact ⟨⟨ys, rfl, hf⟩, rfl⟩
  · obtain ⟨y, rfl, hy⟩ := leaf_one (fun l e => h ⟨l, e⟩) hf
    have e : mkSh s [y] = y := by cases s <;> first | rfl | exact absurd ⟨_, rfl⟩ h
    rw [e]
    refine ⟨hy, ?_⟩
    cases s with
    | int k => obtain ⟨n, rfl, _⟩ := hy; rfl
    | bool => obtain ⟨b, rfl⟩ := hy; rfl
    | str => obtain ⟨x, rfl, _⟩ := hy; rfl
    | roI nw k => obtain ⟨l, rfl, _⟩ := hy; rfl
    | roS nw => obtain ⟨l, rfl, _⟩ := hy; rfl
    | roA nw sh sz => obtain ⟨l, rfl, _⟩ := hy; rfl
    | agg l => exact absurd ⟨_, rfl⟩ h
    | any => exact hy.elim
theorem leaf_mk {s : Sh} {y : AV} (h : ∀ l, s ≠ .agg l) (hy : Fit s y) : Fits (leavesSh s) [y] := by
  have e : leavesSh s = [s] := by cases s <;> first | rfl | exact absurd rfl (h _)
  rw [e]; exact ⟨hy, trivial⟩
section
variable {H : Type} {enc : TypeId × Value → H} {P : Program} {w : World} {sp : Nat → Bool}
def okB (w : World) : Nat → Prop := fun b => b < w.heap.size
/-- Cells and what they stand for. -/
def Stands (w : World) (cs : List Value) (ys : List AV) : Prop :=
  ys.length = cs.length ∧ ∀ i, i < cs.length → Rep w (okB w) 0 (fun _ => none) (ys.getD i default) (cs.getD i undef)
theorem stands_one {y : AV} {c : Value} (h : Rep w (okB w) 0 (fun _ => none) y c) : Stands w [c] [y] :=
  ⟨rfl, fun i hi => by
    match i, hi with
    | 0, _ => exact h⟩
theorem stands_append {a b : List Value} {x y : List AV} (h : Stands w a x) (h' : Stands w b y) : Stands w (a ++ b) (x ++ y) := by
  refine ⟨by simp [h.1, h'.1], fun i hi => ?_⟩
  rw [List.length_append] at hi
  rcases Nat.lt_or_ge i a.length with c | c
  · have := h.2 i c
    simp only [List.getD_eq_getElem?_getD] at this ⊢
    rw [List.getElem?_append_left (by rw [h.1]; exact c), List.getElem?_append_left c]
    exact this
  · have := h'.2 (i - a.length) (by omega)
    simp only [List.getD_eq_getElem?_getD] at this ⊢
    rw [List.getElem?_append_right (by rw [h.1]; exact c), List.getElem?_append_right c, h.1]
    exact this
theorem weightsAll_mem {e : TypeId} {p : Nat → Bool} : ∀ {l : List (DataW H)} {d : DataW H}, d ∈ l → (DataW.weightsAll P e l).all p = true → (d.weights P e).all p = true
  | x :: r, d, hd, h => by
    rw [DataW.weightsAll, List.all_append, Bool.and_eq_true] at h
    rcases List.mem_cons.1 hd with rfl | hd
    · exact h.1
    · exact weightsAll_mem hd h.2
theorem mapM_cons_some {α β : Type} {g : α → Option β} {a : α} {l : List α} {r : List β} (h : (a :: l).mapM g = some r) : ∃ b r', g a = some b ∧ l.mapM g = some r' ∧ r = b :: r' := by
  rw [List.mapM_cons] at h
  cases hb : g a with
  | none => rw [hb] at h; cases h
  | some b =>
    rw [hb] at h
    cases hr : l.mapM g with
    | none =>
      have h : (l.mapM g).bind (fun r' => some (b :: r')) = some r := h
      rw [hr] at h; cases h
    | some r' =>
      have h : (l.mapM g).bind (fun r' => some (b :: r')) = some r := h
      rw [hr] at h; injection h with h
      exact ⟨b, r', rfl, rfl, h.symm⟩
mutual
/-- how much an abstract value holds -/
def avBulk : AV → Nat
  | .v (.string s) => s.size + 1
  | .ro _ l => lstBulk l + 1
  | .agg cs => avBulks cs
  | _ => 1
def lstBulk : Lst → Nat
  | .I _ l => l.length
  | .S l => strBulk l
  | .A _ _ l => avBulks l
def strBulk : List ByteArray → Nat
  | [] => 0
  | s :: r => s.size + 1 + strBulk r
def avBulks : List AV → Nat
  | [] => 0
  | x :: r => avBulk x + avBulks r
end
theorem avBulks_append : ∀ (a b : List AV), avBulks (a ++ b) = avBulks a + avBulks b
  | [], b => by simp [avBulks]
  | x :: a, b => by rw [List.cons_append, avBulks, avBulks, avBulks_append a b]; omega
theorem avBulks_map {α : Type} (f : α → AV) : ∀ l : List α, avBulks (l.map f) = (l.map fun i => avBulk (f i)).sum
  | [] => rfl
  | x :: l => by rw [List.map_cons, avBulks, avBulks_map f l]; rfl
theorem strBulk_map {α : Type} (f : α → ByteArray) : ∀ l : List α, strBulk (l.map f) = (l.map fun i => (f i).size + 1).sum
  | [] => rfl
  | x :: l => by rw [List.map_cons, strBulk, strBulk_map f l]; rfl
theorem sum_range_le {α : Type} (es : List α) (f : Nat → Nat) (g : α → Nat) (h : ∀ i (hi : i < es.length), f i ≤ g es[i]) : ((List.range es.length).map f).sum ≤ (es.map g).sum := by
  induction es generalizing f with
  | nil => exact Nat.le_refl _
  | cons x r ih =>
    rw [List.length_cons, List.range_succ_eq_map, List.map_cons, List.map_cons, List.map_map, List.sum_cons, List.sum_cons]
    have h1 := h 0 (by simp)
    have h2 := ih (f ∘ Nat.succ) (fun i hi => h (i + 1) (by simp; omega))
    have h1 : f 0 ≤ g x := h1
    omega
theorem sum_range_mono (n : Nat) (f g : Nat → Nat) (h : ∀ i, i < n → f i ≤ g i) : ((List.range n).map f).sum ≤ ((List.range n).map g).sum := by
  induction n with
  | zero => exact Nat.le_refl _
  | succ n ih =>
    rw [List.range_succ, List.map_append, List.map_append, List.sum_append, List.sum_append]
    have h1 := h n (Nat.lt_succ_self n)
    have h2 := ih (fun i hi => h i (by omega))
    simp only [List.map_cons, List.map_nil, List.sum_cons, List.sum_nil]
    omega
theorem sum_range_ge (n : Nat) (f : Nat → Nat) (h : ∀ i, i < n → 1 ≤ f i) : n ≤ ((List.range n).map f).sum := by
  induction n with
  | zero => exact Nat.le_refl _
  | succ n ih =>
    rw [List.range_succ, List.map_append, List.sum_append]
    have h1 := h n (Nat.lt_succ_self n)
    have h2 := ih (fun i hi => h i (by omega))
    simp only [List.map_cons, List.map_nil, List.sum_cons, List.sum_nil]
    omega
theorem mk_bulk {s : Sh} {ys : List AV} (hf : Fits (leavesSh s) ys) : avBulk (mkSh s ys) = avBulks ys := by
  have one : (∀ l, s ≠ .agg l) → avBulk (mkSh s ys) = avBulks ys := by
    intro h
    obtain ⟨y, rfl, _⟩ := leaf_one h hf
    have : mkSh s [y] = y := by cases s <;> first | rfl | exact absurd rfl (h _)
    rw [this]; rfl
  cases s with
  | agg l => rfl
  | _ => exact one (fun l e => by cases e)
/-- a measure of data that sees all that is held -/
structure BulkOK {H : Type} (bulk : DataW H → Nat) : Prop where
  pos : ∀ d, 1 ≤ bulk d
  str : ∀ s : ByteArray, s.size + 1 ≤ bulk (.lit (.string s.data.toList))
  slice : ∀ es ss, (es.map bulk).sum + 1 ≤ bulk (.slice es ss)
  agg : ∀ ps, (ps.map bulk).sum ≤ bulk (.agg ps)
/-- One type's opening, at a number of steps. -/
def Opens (H : Type) (enc : TypeId × Value → H) (P : Program) (w : World) (sp : Nat → Bool) (bulk : DataW H → Nat) (fuel : Nat) : Prop :=
  ∀ (t : TypeId) (cs : List Value) (x : DataW H × List MemPlace), DataW.trod enc P w 0 sp true fuel t cs = some x → ∀ (n : Nat) (sh : Sh), shL P n t = some sh → (x.1.weights P t).all (· ≤ reachBytes) = true →
    ∃ ys, Stands w cs ys ∧ Fits (leavesSh sh) ys ∧ avBulks ys ≤ bulk x.1
variable {bulk : DataW H → Nat}
theorem opens_fields {fuel : Nat} (ih : Opens H enc P w sp bulk fuel) (cs : List Value) : ∀ (n : Nat) (fs : List Field) (off : Nat) (l : List Sh) (xs : List (DataW H × List MemPlace)),
    shLs P n fs off cs.length = some l → (fs.mapM fun f => DataW.trod enc P w 0 sp true fuel f.type ((cs.drop f.offset).take (P.cellsOf f.type))) = some xs →
    (DataW.weightsEach P (fs.map (·.type)) (xs.map (·.1))).all (· ≤ reachBytes) = true → off ≤ cs.length ∧ ∃ ys, Stands w (cs.drop off) ys ∧ Fits l ys ∧ avBulks ys ≤ ((xs.map (·.1)).map bulk).sum
  | 0, _, _, _, _, h, _, _ => by cases h
  | n + 1, [], off, l, xs, h, _, _ => by
    obtain ⟨e, h⟩ := cond_none h
    have e := Nat.eq_of_beq_eq_true e
    injection h with h; subst h; subst e
    refine ⟨Nat.le_refl _, [], ⟨?_, fun i hi => ?_⟩, trivial, Nat.zero_le _⟩
    · rw [List.drop_length]; rfl
    · rw [List.drop_length] at hi; exact absurd hi (Nat.not_lt_zero _)
  | n + 1, f :: r, off, l, xs, h, hm, hw => by
    obtain ⟨e, h⟩ := cond_none h
    have e := Nat.eq_of_beq_eq_true e
    cases hs : shL P n f.type with
    | none => rw [hs] at h; cases h
    | some s =>
      cases hr : shLs P n r (off + P.cellsOf f.type) cs.length with
      | none => rw [hs, hr] at h; cases h
      | some l' =>
        rw [hs, hr] at h
        injection h with h; subst h
        obtain ⟨b, r', h1, h2, rfl⟩ := mapM_cons_some hm
        rw [List.map_cons, List.map_cons, DataW.weightsEach, List.all_append, Bool.and_eq_true] at hw
        obtain ⟨hle, ys', k1, k2, k3⟩ := opens_fields ih cs n r (off + P.cellsOf f.type) l' r' hr h2 hw.2
        obtain ⟨ys, g1, g2, g3⟩ := ih _ _ _ h1 n s hs hw.1
        refine ⟨by omega, ys ++ ys', ?_, g2.append k2, by rw [avBulks_append, List.map_cons, List.map_cons, List.sum_cons]; omega⟩
        have : cs.drop off = (cs.drop f.offset).take (P.cellsOf f.type) ++ cs.drop (off + P.cellsOf f.type) := by
          rw [e, ← List.drop_drop, List.take_append_drop]
        rw [this]
        exact stands_append g1 k1
theorem trod_int' {t : TypeId} {k : IntKind} {n : Nat} {cs : List Value} {x : DataW H × List MemPlace} (hu : P.underlying t = some (.int k)) (h : DataW.trod enc P w 0 sp true (n + 1) t cs = some x) : ∃ m, cs = [.int k m] ∧ (Lit.int k m).wf = true := by
  unfold DataW.trod at h
  rw [hu] at h
  split at h <;> simp_all
theorem trod_bool' {t : TypeId} {n : Nat} {cs : List Value} {x : DataW H × List MemPlace} (hu : P.underlying t = some .bool) (h : DataW.trod enc P w 0 sp true (n + 1) t cs = some x) : ∃ b, cs = [.bool b] := by
  unfold DataW.trod at h
  rw [hu] at h
  split at h <;> simp_all
theorem trod_string' {t : TypeId} {n : Nat} {cs : List Value} {x : DataW H × List MemPlace} (hu : P.underlying t = some .string) (h : DataW.trod enc P w 0 sp true (n + 1) t cs = some x) : ∃ s : ByteArray, cs = [.string s] ∧ x.1 = .lit (.string s.data.toList) := by
  unfold DataW.trod at h
  rw [hu] at h
  split at h <;> simp_all
  rw [← h.2]
theorem trod_struct' {t : TypeId} {fs : Array Field} {n : Nat} {cs : List Value} {x : DataW H × List MemPlace} (hu : P.underlying t = some (.struct fs)) (h : DataW.trod enc P w 0 sp true (n + 1) t cs = some x) :
    cs.length = P.cellsOf t ∧ ∃ xs, (fs.toList.mapM fun f => DataW.trod enc P w 0 sp true n f.type ((cs.drop f.offset).take (P.cellsOf f.type))) = some xs ∧ x.1 = .agg (xs.map (·.1)) := by
  unfold DataW.trod at h
  rw [hu] at h
  split at h <;> simp_all
  obtain ⟨h0, xs, h1, h2⟩ := h
  exact ⟨xs, h1, by rw [← h2]⟩
theorem ro_rep {ι : Loci} {l : Lst} {len cap c : Nat} {a : Addr} (hlen : l.length = len) (hsz : l.sz = c) (hc : 1 ≤ c) (hl : len ≤ cap) (csf : Nat → List Value) (ysf : Nat → List AV)
    (h : ∀ i, i < len → w.cells? 0 (a.add (i * c)) c = some (csf i) ∧ Stands w (csf i) (ysf i) ∧ (l.elem i).cells = ysf i) : Rep w (okB w) 0 ι (.ro false l) (.slice (some a) len cap) := by
  rcases Nat.eq_zero_or_pos len with h0 | h0
  · exact .ro0 hlen.symm h0
  · have cell : ∀ i j, i < len → j < c → w.cell? ((a.add (i * c)).add j) = some ((csf i).getD j undef) := by
      intro i j hi hj
      obtain ⟨h1, _, _⟩ := h i hi
      obtain ⟨_, k1, k2⟩ := World.cells?_some h1
      rw [k2 j hj, List.getD_eq_getElem?_getD, List.getElem?_eq_getElem (by omega)]; rfl
    have hspot : a.spot = none := by
      have := World.cell?_spot (cell 0 0 h0 hc)
      simpa [Addr.add] using this
    obtain ⟨b, o, s⟩ := a
    simp only at hspot
    subst hspot
    have cell' : ∀ i j, i < len → j < c → w.cell? ⟨b, o + (i * c + j), none⟩ = some ((csf i).getD j undef) := by
      intro i j hi hj
      have := cell i j hi hj
      rw [addr_add, addr_add] at this
      rw [← Nat.add_assoc]; exact this
    have hb : b < w.heap.size := by
      have := cell' 0 0 h0 hc
      unfold World.cell? at this
      rcases Nat.lt_or_ge b w.heap.size with g | g
      · exact g
      · simp only [Array.getElem?_eq_none g] at this
        cases this
    have hcl : ∀ i, i < len → (csf i).length = c := by
      intro i hi
      obtain ⟨h1, _, _⟩ := h i hi
      obtain ⟨_, k1, k2⟩ := World.cells?_some h1
      exact k1
    refine .ro (fun i j => (csf i).getD j undef) hlen.symm h0 hl hb (fun e => by cases e) rfl (fun i j hi hj => ?_) (fun i j hi hj => ?_) (fun i hi => ?_)
    · rw [hsz] at hj ⊢; exact cell' i j hi hj
    · rw [hsz] at hj
      obtain ⟨_, h2, h3⟩ := h i hi
      have := h2.2 j (by rw [hcl i hi]; exact hj)
      show Rep w (okB w) 0 (fun _ => none) ((l.elem i).cells.getD j default) _
      rw [h3]; exact this
    · obtain ⟨_, h2, h3⟩ := h i hi
      rw [h3, h2.1, hcl i hi, hsz]
theorem opens_slice {fuel : Nat} (ih : Opens H enc P w sp bulk fuel) {t e : TypeId} {cs : List Value} {x : DataW H × List MemPlace} (hu : P.underlying t = some (.slice e)) (h : DataW.trod enc P w 0 sp true (fuel + 1) t cs = some x)
    (hb : 1 ≤ P.bytesOf e) {m : Nat} {sh : Sh} (hsh : shL P m e = some sh) (hw : (x.1.weights P t).all (· ≤ reachBytes) = true) :
    (cs = [.slice none 0 0]) ∨ ∃ (a : Addr) (len cap : Nat) (csf : Nat → List Value) (ysf : Nat → List AV), cs = [.slice (some a) len cap] ∧ len ≤ cap ∧ len ≤ reachBytes ∧
      (∀ i, i < len → w.cells? 0 (a.add (i * P.cellsOf e)) (P.cellsOf e) = some (csf i) ∧ Stands w (csf i) (ysf i) ∧ Fits (leavesSh sh) (ysf i)) ∧
      ∃ (es ss : List (DataW H)), x.1 = .slice es ss ∧ es.length = len ∧ ∀ i (h : i < es.length), avBulks (ysf i) ≤ bulk es[i] := by
  rcases DataW.trod_slice hu h with ⟨h0, _⟩ | ⟨a, len, cap, elems, rest, n, hn, rfl, rfl, _, hl, hm, hlen, hel, _, _⟩
  · exact .inl h0
  right
  have hn : fuel = n := by omega
  subst hn
  rw [DataW.weights, hu] at hw
  simp only [List.all_cons, List.all_append, Bool.and_eq_true, decide_eq_true_eq] at hw
  obtain ⟨w1, w2, _⟩ := hw
  have hlr : len ≤ reachBytes := by
    refine Nat.le_trans ?_ w1
    rw [List.length_map, hlen]
    exact Nat.le_trans (Nat.le_add_right len _) (Nat.le_mul_of_pos_right _ hb)
  have each : ∀ i, i < len → ∃ p : List Value × List AV, w.cells? 0 (a.add (i * P.cellsOf e)) (P.cellsOf e) = some p.1 ∧ Stands w p.1 p.2 ∧ Fits (leavesSh sh) p.2 ∧ ∀ (h : i < (elems.map (·.1)).length), avBulks p.2 ≤ bulk (elems.map (·.1))[i] := by
    intro i hi
    have := hel i hi
    rw [List.getElem?_eq_getElem (by omega)] at this
    obtain ⟨cs', h1, h2⟩ := Option.bind_eq_some_iff.1 this
    obtain ⟨ys, g1, g2, g3⟩ := ih e cs' _ h2 m sh hsh (weightsAll_mem (List.mem_map_of_mem (List.getElem_mem _)) w2)
    exact ⟨(cs', ys), h1, g1, g2, fun h => by rw [List.getElem_map]; exact g3⟩
  obtain ⟨f, hf⟩ := choose_lt each
  exact ⟨a, len, cap, fun i => (f i).1, fun i => (f i).2, rfl, hl, hlr, fun i hi => ⟨(hf i hi).1, (hf i hi).2.1, (hf i hi).2.2.1⟩, _, _, rfl, by rw [List.length_map]; exact hlen, fun i h => (hf i (by rw [List.length_map] at h; omega)).2.2.2 h⟩
theorem elem_A {sh : Sh} {c len : Nat} {A : Nat → AV} {i : Nat} (hi : i < len) (hA : Fit sh (A i)) : (Lst.A sh c ((List.range len).map A)).elem i = A i := by
  show view sh (((List.range len).map A).getD i default) = A i
  have : ((List.range len).map A).getD i default = A i := by simp [List.getD_eq_getElem?_getD, hi]
  rw [this, fit_view sh _ hA]
theorem opens (hb : BulkOK bulk) : ∀ fuel, Opens H enc P w sp bulk fuel
  | 0 => fun t cs x h => by simp [DataW.trod] at h
  | fuel + 1 => by
    have hbulk := hb
    have ih := opens hb fuel
    intro t cs x h n sh hsh hw
    match n, hsh with
    | n + 1, hsh =>
    unfold shL at hsh
    split at hsh
    · rename_i k hu
      injection hsh with hsh; subst hsh
      obtain ⟨m, rfl, hm⟩ := trod_int' hu h
      exact ⟨[.v (.int k m)], stands_one (.v _), ⟨⟨m, rfl, hm⟩, trivial⟩, hbulk.pos _⟩
    · rename_i hu
      injection hsh with hsh; subst hsh
      obtain ⟨b, rfl⟩ := trod_bool' hu h
      exact ⟨[.v (.bool b)], stands_one (.v _), ⟨⟨b, rfl⟩, trivial⟩, hbulk.pos _⟩
    · rename_i hu
      injection hsh with hsh; subst hsh
      obtain ⟨s, rfl, hx⟩ := trod_string' hu h
      rw [hx, DataW.weights] at hw
      exact ⟨[.v (.string s)], stands_one (.v _), ⟨⟨s, rfl, by simpa using hw⟩, trivial⟩, by rw [hx]; exact hbulk.str _⟩
    · rename_i e hu
      obtain ⟨hb, hsh⟩ := cond_none hsh
      have hb := Nat.le_of_ble_eq_true hb
      have one : ∀ {m : Nat} {sh : Sh}, shL P m e = some sh → (∀ l, sh ≠ .agg l) → P.cellsOf e = 1 → ∀ (L : (Nat → AV) → Nat → Lst), (∀ A len, (L A len).length = len ∧ (L A len).sz = 1) → (∀ A len i, i < len → Fit sh (A i) → (L A len).elem i = A i) →
          ∀ (R : Sh), (∀ A len, len ≤ reachBytes → (∀ i, i < len → Fit sh (A i)) → Fits (leavesSh R) [.ro false (L A len)]) → (∀ A len, (∀ i, i < len → Fit sh (A i)) → lstBulk (L A len) ≤ ((List.range len).map fun i => avBulk (A i)).sum) → ∃ ys, Stands w cs ys ∧ Fits (leavesSh R) ys ∧ avBulks ys ≤ bulk x.1 := by
        intro m sh hs hleaf hc L hL hE R hR hBk
        rcases opens_slice ih hu h hb hs hw with rfl | ⟨a, len, cap, csf, ysf, rfl, hl, hlr, hf, es, ss, hxs, hel, hes⟩
        · refine ⟨[.ro false (L (fun _ => default) 0)], stands_one (.ro0 (hL _ 0).1.symm rfl), hR _ 0 (Nat.zero_le _) (fun i hi => absurd hi (Nat.not_lt_zero _)), ?_⟩
          have := hBk (fun _ => default) 0 (fun i hi => absurd hi (Nat.not_lt_zero _))
          have h0 : lstBulk (L (fun _ => default) 0) = 0 := Nat.le_zero.1 this
          show lstBulk (L (fun _ => default) 0) + 1 + 0 ≤ _
          rw [h0]; exact hbulk.pos _
        · have hA : ∀ i, i < len → Fit sh (mkSh sh (ysf i)) := fun i hi => (mk_fit (hf i hi).2.2).1
          have hBk' : lstBulk (L (fun i => mkSh sh (ysf i)) len) + 1 + 0 ≤ bulk x.1 := by
            have h1 := hBk (fun i => mkSh sh (ysf i)) len hA
            have h2 := sum_range_le es (fun i => avBulk (mkSh sh (ysf i))) bulk (fun i hi => by rw [mk_bulk (hf i (by omega)).2.2]; exact hes i hi)
            have h3 := hbulk.slice es ss
            rw [hxs]; rw [hel] at h2; omega
          refine ⟨[.ro false (L (fun i => mkSh sh (ysf i)) len)], stands_one (ro_rep (hL _ len).1 (hL _ len).2 (Nat.le_refl 1) hl csf ysf (fun i hi => ?_)), hR _ len hlr hA, hBk'⟩
          obtain ⟨h1, h2, h3⟩ := hf i hi
          rw [hc] at h1
          refine ⟨h1, h2, ?_⟩
          rw [hE _ len i hi (hA i hi)]
          exact (mk_fit h3).2
      split at hsh
      · rename_i k hue
        obtain ⟨hc, hsh⟩ := cond_none hsh
        injection hsh with hsh; subst hsh
        refine one (m := 1) (sh := .int k) (by unfold shL; rw [hue]) (fun l e => by cases e) (Nat.eq_of_beq_eq_true hc) (fun A len => .I k ((List.range len).map fun i => (A i).int!)) (fun A len => ⟨by simp [Lst.length], rfl⟩) (fun A len i hi hA => ?_) _ (fun A len hlr hA => ?_) (fun A len hA => ?_)
        rotate_left 2
        · show ((List.range len).map fun i => (A i).int!).length ≤ _
          rw [List.length_map, List.length_range]
          have := sum_range_ge len (fun i => avBulk (A i)) (fun i hi => by obtain ⟨z, hz, _⟩ := hA i hi; rw [hz]; exact Nat.le_refl 1)
          exact this
        · obtain ⟨z, hz, _⟩ := hA
          show AV.v (.int k (((List.range len).map fun i => (A i).int!).getD i 0)) = A i
          have : ((List.range len).map fun i => (A i).int!).getD i 0 = (A i).int! := by simp [List.getD_eq_getElem?_getD, hi]
          rw [this, hz]; rfl
        · refine ⟨⟨_, rfl, by simpa using hlr, fun z hz => ?_⟩, trivial⟩
          obtain ⟨i, hi, rfl⟩ := List.mem_map.1 hz
          obtain ⟨z', hz', hwf⟩ := hA i (List.mem_range.1 hi)
          rw [hz']; exact hwf
      · rename_i hue
        obtain ⟨hc, hsh⟩ := cond_none hsh
        injection hsh with hsh; subst hsh
        refine one (m := 1) (sh := .str) (by unfold shL; rw [hue]) (fun l e => by cases e) (Nat.eq_of_beq_eq_true hc) (fun A len => .S ((List.range len).map fun i => (A i).str!)) (fun A len => ⟨by simp [Lst.length], rfl⟩) (fun A len i hi hA => ?_) _ (fun A len hlr hA => ?_) (fun A len hA => ?_)
        rotate_left 2
        · show strBulk ((List.range len).map fun i => (A i).str!) ≤ _
          rw [strBulk_map]
          exact sum_range_mono len _ _ (fun i hi => by obtain ⟨z, hz, _⟩ := hA i hi; rw [hz]; exact Nat.le_refl _)
        · obtain ⟨z, hz, _⟩ := hA
          show AV.v (.string (((List.range len).map fun i => (A i).str!).getD i ByteArray.empty)) = A i
          have : ((List.range len).map fun i => (A i).str!).getD i ByteArray.empty = (A i).str! := by simp [List.getD_eq_getElem?_getD, hi]
          rw [this, hz]; rfl
        · refine ⟨⟨_, rfl, by simpa using hlr, fun z hz => ?_⟩, trivial⟩
          obtain ⟨i, hi, rfl⟩ := List.mem_map.1 hz
          obtain ⟨z', hz', hwf⟩ := hA i (List.mem_range.1 hi)
          rw [hz']; exact hwf
      · split at hsh
        · rename_i sh' hs
          obtain ⟨hc, hsh⟩ := cond_none hsh
          rw [Bool.and_eq_true] at hc
          have hc1 := Nat.le_of_ble_eq_true hc.2
          injection hsh with hsh; subst hsh
          rcases opens_slice ih hu h hb hs hw with rfl | ⟨a, len, cap, csf, ysf, rfl, hl, hlr, hf, es, ss, hxs, hel, hes⟩
          · exact ⟨[.ro false (.A sh' (P.cellsOf e) [])], stands_one (.ro0 rfl rfl), ⟨⟨[], rfl, Nat.zero_le _, fun e he => by cases he⟩, trivial⟩, hbulk.pos _⟩
          · have hA : ∀ i, i < len → Fit sh' (mkSh sh' (ysf i)) := fun i hi => (mk_fit (hf i hi).2.2).1
            have hBk' : avBulks ((List.range len).map fun i => mkSh sh' (ysf i)) + 1 + 0 ≤ bulk x.1 := by
              have h2 := sum_range_le es (fun i => avBulk (mkSh sh' (ysf i))) bulk (fun i hi => by rw [mk_bulk (hf i (by omega)).2.2]; exact hes i hi)
              have h3 := hbulk.slice es ss
              rw [avBulks_map, hxs]; rw [hel] at h2; omega
            refine ⟨[.ro false (.A sh' (P.cellsOf e) ((List.range len).map fun i => mkSh sh' (ysf i)))], stands_one (ro_rep (by simp [Lst.length]) rfl hc1 hl csf ysf (fun i hi => ?_)), ⟨⟨_, rfl, by simpa using hlr, fun z hz => ?_⟩, trivial⟩, hBk'⟩
            · obtain ⟨h1, h2, h3⟩ := hf i hi
              refine ⟨h1, h2, ?_⟩
              rw [elem_A hi (hA i hi)]
              exact (mk_fit h3).2
            · obtain ⟨i, hi, rfl⟩ := List.mem_map.1 hz
              exact hA i (List.mem_range.1 hi)
        · cases hsh
      · cases hsh
    · rename_i fs hu
      split at hsh
      · rename_i l hs
        injection hsh with hsh; subst hsh
        obtain ⟨hlen, xs, hm, hx⟩ := trod_struct' hu h
        rw [hx, DataW.weights, hu] at hw
        rw [← hlen] at hs
        obtain ⟨_, ys, h1, h2, h3⟩ := opens_fields ih cs n fs.toList 0 l xs hs hm hw
        rw [List.drop_zero] at h1
        exact ⟨ys, h1, h2, by rw [hx]; exact Nat.le_trans h3 (hbulk.agg _)⟩
      · cases hsh
    · cases hsh
/-! the same reading afterwards -/
theorem mapM_imp {α β : Type} {f g : α → Option β} : ∀ {l : List α} {r : List β}, l.mapM f = some r → (∀ a ∈ l, ∀ b, f a = some b → g a = some b) → l.mapM g = some r
  | [], r, h, _ => by
    have h : some [] = some r := h
    rw [← h]; rfl
  | a :: l, r, h, hfg => by
    obtain ⟨b, r', h1, h2, rfl⟩ := mapM_cons_some h
    rw [List.mapM_cons, hfg a List.mem_cons_self b h1]
    have := mapM_imp h2 (fun a ha => hfg a (List.mem_cons_of_mem _ ha))
    show (l.mapM g).bind (fun r' => some (b :: r')) = some (b :: r')
    rw [this]; rfl
theorem cells_grown {w w' : World} (hg : Grown w w') {base : Nat} {a : Addr} {n : Nat} {cs : List Value} (h : w.cells? base a n = some cs) : w'.cells? base a n = some cs := by
  unfold World.cells? at h ⊢
  split at h
  · rename_i hb
    rw [if_pos hb]
    exact mapM_imp h (fun i _ b hb => hg.cell hb)
  · cases h
def Again (H : Type) (enc : TypeId × Value → H) (P : Program) (w w' : World) (fuel : Nat) : Prop :=
  ∀ (t : TypeId) (cs : List Value) (x : DataW H × List MemPlace), DataW.trod enc P w 0 (fun _ => true) true fuel t cs = some x → ∀ (n : Nat) (sh : Sh), shL P n t = some sh →
    DataW.trod enc P w' 0 (fun b => decide (b < w.heap.size)) true fuel t cs = some x
theorem shLs_mem {P : Program} : ∀ {n : Nat} {fs : List Field} {off tot : Nat} {l : List Sh}, shLs P n fs off tot = some l → ∀ f ∈ fs, ∃ m s, shL P m f.type = some s
  | 0, _, _, _, _, h, _, _ => by cases h
  | n + 1, [], _, _, _, _, f, hf => by cases hf
  | n + 1, g :: r, off, tot, l, h, f, hf => by
    obtain ⟨_, h⟩ := cond_none h
    cases hs : shL P n g.type with
    | none => rw [hs] at h; cases h
    | some s =>
      cases hr : shLs P n r (off + P.cellsOf g.type) tot with
      | none => rw [hs, hr] at h; cases h
      | some l' =>
        rcases List.mem_cons.1 hf with rfl | hf
        · exact ⟨n, s, hs⟩
        · exact shLs_mem hr f hf
theorem again {w w' : World} (hg : Grown w w') : ∀ fuel, Again H enc P w w' fuel
  | 0 => fun t cs x h => by simp [DataW.trod] at h
  | fuel + 1 => by
    have ih := again hg fuel
    intro t cs x h n sh hsh
    match n, hsh with
    | n + 1, hsh =>
    unfold shL at hsh
    split at hsh
    · rename_i k hu
      unfold DataW.trod at h ⊢
      rw [hu] at h ⊢
      split at h <;> simp_all
    · rename_i hu
      unfold DataW.trod at h ⊢
      rw [hu] at h ⊢
      split at h <;> simp_all
    · rename_i hu
      unfold DataW.trod at h ⊢
      rw [hu] at h ⊢
      split at h <;> simp_all
    · rename_i e hu
      obtain ⟨hb, hsh⟩ := cond_none hsh
      have elem : ∃ m s, shL P m e = some s ∧ 1 ≤ P.cellsOf e := by
        split at hsh
        · rename_i k hue; exact ⟨1, .int k, by unfold shL; rw [hue], Nat.le_of_eq (Nat.eq_of_beq_eq_true (cond_none hsh).1).symm⟩
        · rename_i hue; exact ⟨1, .str, by unfold shL; rw [hue], Nat.le_of_eq (Nat.eq_of_beq_eq_true (cond_none hsh).1).symm⟩
        · split at hsh
          · obtain ⟨hc, _⟩ := cond_none hsh
            rw [Bool.and_eq_true] at hc
            exact ⟨_, _, ‹_›, Nat.le_of_ble_eq_true hc.2⟩
          · cases hsh
        · cases hsh
      obtain ⟨m, s, hs, hce⟩ := elem
      have ea : ∀ (a : Addr) (i : Nat) (y : DataW H × List MemPlace), (w.cells? 0 (a.add (i * P.cellsOf e)) (P.cellsOf e)).bind (DataW.trod enc P w 0 (fun _ => true) true fuel e) = some y →
          (w'.cells? 0 (a.add (i * P.cellsOf e)) (P.cellsOf e)).bind (DataW.trod enc P w' 0 (fun b => decide (b < w.heap.size)) true fuel e) = some y := by
        intro a i y hy
        obtain ⟨cs', h1, h2⟩ := Option.bind_eq_some_iff.1 hy
        rw [cells_grown hg h1]
        exact ih e cs' y h2 m s hs
      unfold DataW.trod at h ⊢
      rw [hu] at h ⊢
      split at h <;> try (simp_all; done)
      rename_i e' a len cap hu2
      injection hu2 with hu2; injection hu2 with hu2; subst hu2
      simp only at h ⊢
      split at h
      · rename_i hc
        rw [if_pos hc]
        obtain ⟨elems, h1, h2⟩ := Option.bind_eq_some_iff.1 h
        rw [mapM_imp h1 (fun i _ y hy => ea a i y hy)]
        simp only [Option.bind_some]
        rw [if_pos trivial] at h2
        obtain ⟨rest, h3, h4⟩ := Option.map_eq_some_iff.1 h2
        have h3' := mapM_imp h3 (fun j _ y hy => ea a (len + j) y hy)
        by_cases hblk : a.block < w.heap.size
        · rw [if_pos (by simpa using hblk), h3', Option.map_some, h4]
        · rw [if_neg (by simpa using hblk)]
          have hz : cap - len = 0 := by
            rcases Nat.eq_zero_or_pos (cap - len) with z | z
            · exact z
            · exfalso
              obtain ⟨k, hk⟩ : ∃ k, cap - len = k + 1 := ⟨cap - len - 1, by omega⟩
              rw [hk, List.range_succ_eq_map] at h3
              obtain ⟨b, r', g1, _, _⟩ := mapM_cons_some h3
              obtain ⟨cs', k1, k2⟩ := Option.bind_eq_some_iff.1 g1
              obtain ⟨_, k5, k3⟩ := World.cells?_some k1
              have k4 := k3 0 (by omega)
              rw [List.getElem?_eq_getElem (by omega)] at k4
              unfold World.cell? at k4
              have : ((a.add ((len + 0) * P.cellsOf e)).add 0).block = a.block := by
                unfold Addr.add; split <;> split <;> rfl
              rw [this, Array.getElem?_eq_none (by omega)] at k4
              cases k4
          rw [hz] at h3
          have : rest = [] := by
            have h3 : some [] = some rest := h3
            injection h3 with h3; exact h3.symm
          subst this
          exact congrArg some (by simpa using h4)
      · cases h
    · rename_i fs hu
      split at hsh
      · rename_i l hs
        unfold DataW.trod at h ⊢
        rw [hu] at h ⊢
        split at h <;> try (simp_all; done)
        rename_i fs' cs' hu2
        injection hu2 with hu2; injection hu2 with hu2; subst hu2
        split at h
        · rename_i hc
          rw [if_pos hc]
          obtain ⟨xs, h1, h2⟩ := Option.map_eq_some_iff.1 h
          rw [mapM_imp h1 (fun f hf y hy => by
            obtain ⟨m, s, hs'⟩ := shLs_mem hs f hf
            exact ih _ _ y hy m s hs')]
          exact congrArg some h2
        · cases h
      · cases hsh
    · cases hsh
/-! one argument, all arguments -/
theorem okWide_leaf {r : Reach} {base : Nat} {t : TypeId} {v : Value} (h : Value.okWide P w r base t v) (hu : ∃ d, P.underlying t = some d ∧ (match d with | .int _ | .bool | .string | .slice _ => True | _ => False)) : v.cells = #[v] := by
  obtain ⟨d, hu, hd⟩ := hu
  cases v with
  | agg cs =>
    exfalso
    unfold Value.okWide Cell.okWide Cell.ok at h
    cases d <;> simp [hu] at h hd
  | _ => rfl
theorem open_argB {base : Nat} {t : TypeId} {v : Value} {d : DataW H} {p : List MemPlace} {n : Nat} {sh : Sh} (hsh : shL P n t = some sh) (hval : Value.okWide P w .any base t v) (hT : DataW.Trod enc P w 0 (fun _ => true) true t v d p)
    (hw : (d.weights P t).all (· ≤ reachBytes) = true) (hb : BulkOK bulk) : ∃ y, Fit sh y ∧ Rep w (fun b => b < w.heap.size) 0 (fun _ => none) y v ∧ avBulk y ≤ bulk d := by
  obtain ⟨fuel, hf⟩ := hT
  obtain ⟨ys, hS, hF, hBk⟩ := opens hb fuel t v.cells.toList (d, p) hf n sh hsh hw
  have leaf : (∀ l, sh ≠ .agg l) → v.cells = #[v] → ∃ y, Fit sh y ∧ Rep w (fun b => b < w.heap.size) 0 (fun _ => none) y v ∧ avBulk y ≤ bulk d := by
    intro h1 h2
    obtain ⟨y, rfl, hy⟩ := leaf_one h1 hF
    refine ⟨y, hy, ?_, by simpa [avBulks] using hBk⟩
    have := hS.2 0 (by rw [h2]; exact Nat.zero_lt_one)
    rw [h2] at this
    exact this
  match n, hsh with
  | n + 1, hsh =>
  unfold shL at hsh
  split at hsh
  · rename_i k hu
    injection hsh with hsh; subst hsh
    exact leaf (fun l e => by cases e) (okWide_leaf hval ⟨_, hu, trivial⟩)
  · rename_i hu
    injection hsh with hsh; subst hsh
    exact leaf (fun l e => by cases e) (okWide_leaf hval ⟨_, hu, trivial⟩)
  · rename_i hu
    injection hsh with hsh; subst hsh
    exact leaf (fun l e => by cases e) (okWide_leaf hval ⟨_, hu, trivial⟩)
  · rename_i e hu
    obtain ⟨_, hsh⟩ := cond_none hsh
    refine leaf (fun l e => ?_) (okWide_leaf hval ⟨_, hu, trivial⟩)
    subst e
    split at hsh
    · obtain ⟨_, hsh⟩ := cond_none hsh; cases hsh
    · obtain ⟨_, hsh⟩ := cond_none hsh; cases hsh
    · split at hsh
      · obtain ⟨_, hsh⟩ := cond_none hsh; cases hsh
      · cases hsh
    · cases hsh
  · rename_i fs hu
    split at hsh
    · injection hsh with hsh; subst hsh
      obtain ⟨cs, rfl, _⟩ : ∃ cs, v = .agg cs ∧ True := by
        unfold Value.okWide at hval
        rw [hu] at hval
        obtain ⟨cs, h, _⟩ := hval
        exact ⟨cs, h, trivial⟩
      refine ⟨.agg ys, ⟨ys, rfl, hF⟩, .agg (by rw [hS.1]; rfl) (fun i hi => ?_), hBk⟩
      have := hS.2 i (by rw [← hS.1]; exact hi)
      have e : (Value.agg cs).cells.toList.getD i undef = cs.getD i undef := by
        show cs.toList.getD i undef = _
        simp [List.getD_eq_getElem?_getD, Array.getD_eq_getD_getElem?]
      rw [e] at this; exact this
    · cases hsh
  · cases hsh
/-- what data hold -/
def dBulk {H : Type} : DataW H → Nat
  | .lit (.string b) => b.length + 1
  | .slice es _ => dBulks es + 1
  | .agg ps => dBulks ps + 1
  | _ => 1
where dBulks : List (DataW H) → Nat
  | [] => 0
  | x :: r => dBulk x + dBulks r
theorem dBulks_eq {H : Type} : ∀ l : List (DataW H), dBulk.dBulks l = (l.map dBulk).sum
  | [] => by simp [dBulk.dBulks]
  | x :: r => by rw [dBulk.dBulks, dBulks_eq r]; rfl
theorem dBulk_ok {H : Type} : BulkOK (dBulk (H := H)) where
  pos := fun d => by unfold dBulk; split <;> omega
  str := fun s => by simp only [dBulk]; exact Nat.le_refl _
  slice := fun es ss => by simp only [dBulk, dBulks_eq]; exact Nat.le_refl _
  agg := fun ps => by simp only [dBulk, dBulks_eq]; omega
theorem open_arg {base : Nat} {t : TypeId} {v : Value} {d : DataW H} {p : List MemPlace} {n : Nat} {sh : Sh} (hsh : shL P n t = some sh) (hval : Value.okWide P w .any base t v) (hT : DataW.Trod enc P w 0 (fun _ => true) true t v d p)
    (hw : (d.weights P t).all (· ≤ reachBytes) = true) : ∃ y, Fit sh y ∧ Rep w (fun b => b < w.heap.size) 0 (fun _ => none) y v := by
  obtain ⟨y, h1, h2, _⟩ := open_argB hsh hval hT hw dBulk_ok
  exact ⟨y, h1, h2⟩
theorem again_all {w' : World} (hg : Grown w w') : ∀ {ts : List TypeId} {vs : List Value} {ds : List (DataW H)} {ps : List MemPlace}, ts.all (fun t => (shL P 30 t).isSome) = true → DataW.TrodAll enc P w 0 (fun _ => true) true ts vs ds ps →
    DataW.TrodAll enc P w' 0 (fun b => decide (b < w.heap.size)) true ts vs ds ps
  | [], [], [], ps, _, h => h
  | t :: ts, v :: vs, d :: ds, ps, hs, h => by
    rw [List.all_cons, Bool.and_eq_true] at hs
    obtain ⟨p, q, ⟨fuel, h1⟩, h2, h3⟩ := h
    obtain ⟨sh, hsh⟩ := Option.isSome_iff_exists.1 hs.1
    exact ⟨p, q, ⟨fuel, again hg fuel t _ _ h1 30 sh hsh⟩, again_all hg hs.2 h2, h3⟩
  | [], _ :: _, _, _, _, h => h.elim
  | [], [], _ :: _, _, _, h => h.elim
  | _ :: _, [], _, _, _, h => by cases h
  | _ :: _, _ :: _, [], _, _, h => by cases h
theorem weights_cons {q : Nat → Bool} {t : TypeId} {ts : List TypeId} {d : DataW H} {ds : List (DataW H)} (h : (DataW.weightsEach P (t :: ts) (d :: ds)).all q = true) : (d.weights P t).all q = true ∧ (DataW.weightsEach P ts ds).all q = true := by
  rw [DataW.weightsEach, List.all_append, Bool.and_eq_true] at h; exact h
theorem Fits.cons {s : Sh} {r : List Sh} {l : List AV} (h : Fits (s :: r) l) : ∃ y l', l = y :: l' ∧ Fit s y ∧ Fits r l' := by
  match l, h with
  | y :: l', h => exact ⟨y, l', rfl, h.1, h.2⟩
theorem Fits.nil {l : List AV} (h : Fits [] l) : l = [] := by
  match l, h with
  | [], _ => rfl
theorem below_grown {w w' : World} (h : Go.RowKit.Below w.heap.size w w') : Grown w w' := ⟨h.os, h.tape, h.output, h.size, h.block⟩
/-! what an argument's reading says of its length -/
theorem cells_one {v : Value} (h : ∀ cs, v ≠ .agg cs) : v.cells.toList = [v] := by
  cases v <;> first | rfl | exact absurd rfl (h _)
theorem slice_dat {t e : TypeId} {v : Value} {d : DataW H} {p : List MemPlace} {nw : Bool} {l : Lst} {ok : Nat → Prop} {B : Nat} {ι : Loci} (hu : P.underlying t = some (.slice e)) (hT : DataW.Trod enc P w 0 sp true t v d p) (hr : Rep w ok B ι (.ro nw l) v) :
    (d = .nil ∧ l.length = 0) ∨ ∃ es ss, d = .slice es ss ∧ l.length = es.length := by
  obtain ⟨fuel, hf⟩ := hT
  obtain ⟨a, n, c, rfl, hn⟩ : ∃ a n c, v = .slice a n c ∧ n = l.length := by
    cases hr with
    | ro val h1 => exact ⟨_, _, _, rfl, h1⟩
    | ro0 h1 => exact ⟨_, _, _, rfl, h1⟩
  rw [cells_one (fun cs e => by cases e)] at hf
  rcases DataW.trod_slice hu hf with ⟨h0, hx⟩ | ⟨a', len, cap, elems, rest, n', _, hc, hx, _, _, _, hlen, _⟩
  · injection h0 with h0; injection h0 with _ h0
    injection hx with hx
    exact .inl ⟨hx, by omega⟩
  · injection hc with hc; injection hc with _ hc
    injection hx with hx
    exact .inr ⟨_, _, hx, by rw [List.length_map]; omega⟩
theorem str_dat {t : TypeId} {v : Value} {d : DataW H} {p : List MemPlace} {s : ByteArray} {ok : Nat → Prop} {B : Nat} {ι : Loci} (hu : P.underlying t = some .string) (hT : DataW.Trod enc P w 0 sp true t v d p) (hr : Rep w ok B ι (.v (.string s)) v) :
    d = .lit (.string s.data.toList) := by
  obtain ⟨fuel, hf⟩ := hT
  rw [rep_v_inv hr] at hf
  match fuel, hf with
  | n + 1, hf =>
    obtain ⟨s', h1, h2⟩ := trod_string' hu hf
    have h1 : [Value.string s] = [Value.string s'] := h1
    injection h1 with h1; injection h1 with h1; subst h1
    exact h2
end
end Go.Ev

