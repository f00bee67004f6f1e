/- text's law TextPastes is true for every list of texts and every delimiters that the given upto-statement covers (what is read is of bulk at most 1048576), and never panics. -/
import Derived.Test.YtlkhhhfoiipiaaaPastesPlain
import Derived.Test.YtlkhhhfoiipiaaaEv4
import Derived.Test.YtlkhhhfoiipiaaaRows
import Derived.WalkKit
import Derived.ProofKit
import Derived.OpenShut
import Derived.ShutString
import Derived.ChangeOld
import Derived.Below
import Derived.SizedLaws
import Derived.Deep.CondSized
import Derived.JoinedCond
set_option linter.unusedVariables false
set_option maxRecDepth 100000
namespace Go.Proofs.Ytlkhhhfoiipiaaa.textPastesUpto
open Go.ChangeShapes Go.WideShapes Go.ChangeAt Go.RowKit
open Go.Ev (open_arg again_all below_grown weights_cons shL)
theorem own : ownKnob Try.prog.godebug = none := by kernel_rfl
theorem bulk_one {H : Type} (d : DataW H) : 1 ≤ Rows.uptoBulk d := by
  cases d with
  | lit l => cases l <;> simp [Rows.uptoBulk]
  | _ => simp [Rows.uptoBulk]
theorem bulk_len {H : Type} (l : List (DataW H)) : l.length ≤ Rows.uptoBulkAll l := by
  induction l with
  | nil => simp [Rows.uptoBulkAll]
  | cons x r ih => have := bulk_one x; simp only [Rows.uptoBulkAll, List.length_cons]; omega
theorem bulk_sum {H : Type} : ∀ l : List (DataW H), Rows.uptoBulkAll l = (l.map Rows.uptoBulk).sum
  | [] => by simp [Rows.uptoBulkAll]
  | x :: r => by rw [Rows.uptoBulkAll, bulk_sum r]; rfl
theorem bulk_ok {H : Type} : Go.Ev.BulkOK (Rows.uptoBulk (H := H)) where
  pos := bulk_one
  str := fun s => by simp only [Rows.uptoBulk]; exact Nat.le_refl _
  slice := fun es ss => by simp only [Rows.uptoBulk, bulk_sum]; omega
  agg := fun ps => by simp only [Rows.uptoBulk, bulk_sum]; omega
/-- What is left to plain Lean: what the code computes is true. -/
def Pure : Prop := ∀ (a0 : List Go.Ev.AV) (a1 : ByteArray), (a0.length ≤ 1048576 ∧ ∀ e ∈ a0, Go.Ev.Fit (.roI false .u8) e) → a1.size ≤ 1048576 → Go.Ev.avBulks [(.ro false (.A (.roI false .u8) 1 a0)), (.v (.string a1))] ≤ 1048576 → ∃ k, Go.Proofs.Try.F7.go k a0 a1 = some ((true, ()), (), ())
set_option maxRecDepth 100000 in
theorem walk (P : Pure) (a0 : List Go.Ev.AV) (a1 : ByteArray) (v0 v1 : Value) (w : World) (h0 : (a0.length ≤ 1048576 ∧ ∀ e ∈ a0, Go.Ev.Fit (.roI false .u8) e)) (h1 : a1.size ≤ 1048576) (hbk : Go.Ev.avBulks [(.ro false (.A (.roI false .u8) 1 a0)), (.v (.string a1))] ≤ 1048576) (r0 : Go.Ev.Rep w (fun b => b < w.heap.size) 0 (fun _ => none) (.ro false (.A (.roI false .u8) 1 a0)) v0) (r1 : Go.Ev.Rep w (fun b => b < w.heap.size) 0 (fun _ => none) (.v (.string a1)) v1) : Calls Try.prog 7 #[v0, v1] w fun e w' => e = .returned (.bool true) ∧ Below w.heap.size w w' := by
  obtain ⟨k, hk⟩ := P a0 a1 h0 h1 hbk
  refine Go.Ev.law_calls (Go.Proofs.Try.F7.ok k) rfl rfl rfl (x := ((a0, a1, ()), (), ())) hk rfl ?_
  intro t y h
  match t, h with
  | 0, h =>
    have h : some ((.ro false (.A (.roI false .u8) 1 a0)) : Go.Ev.AV) = some y := h
    injection h with h; subst h; exact ⟨by decide, r0⟩
  | 1, h =>
    have h : some ((.v (.string a1)) : Go.Ev.AV) = some y := h
    injection h with h; subst h; exact ⟨by decide, r1⟩
  | t + 2, h => have h : (none : Option Go.Ev.AV) = some y := h; cases h
set_option maxRecDepth 100000 in
theorem lifted (P : Pure) (os : Os) (started : os.Started) (H : Type) (enc : TypeId × Value → H) (F : Stop.Interp) :
    ReturnsInHanded {} Try.checked os 7 .any ((Rows.OpenSpec.upto Rows.textPastesSpec).pre6 enc Try.prog Try.f7 Rows.textPastesUptoRow.domain false) (((Rows.OpenSpec.upto Rows.textPastesSpec).at F).post enc Try.prog Try.f7 false true false false) := by
  refine returnsInHanded_of_cond_sized (C := Try.checked) (s := (Rows.OpenSpec.upto Rows.textPastesSpec)) (k := Rows.uptoSmall) rfl own started (by kernel_rfl) Try.func7
    (OpenSpec.witness (enc := enc) (C := Try.checked) (s := (Rows.OpenSpec.upto Rows.textPastesSpec)) (k := Rows.uptoSmall) rfl false ⟨#[], #[.slice none 0 0, .string ByteArray.empty], []⟩ 8 (by kernel_rfl) (by kernel_rfl) (by kernel_rfl)
      (x := ([.nil, .lit (.string [])], [], [])) (by kernel_rfl) rfl (by kernel_rfl)) ?_
  intro W base args ds gs before hval0 hW hcnd hk hsz0 _
  have hsz : (DataW.weightsEach Try.prog (Try.f7.params.toList ++ Rows.textPastesSpec.plain.varTypes Try.prog) (ds ++ gs)).all (· ≤ reachBytes) = true := hsz0
  have hval : ∀ (j : Nat) t v, Try.f7.params[j]? = some t → args[j]? = some v → Value.okWide Try.prog W .any base t v := hval0
  have hW' := hW
  obtain ⟨p, q, hA0, hV, rfl, hfz, hnd⟩ := hW
  have hA : DataW.TrodAll enc Try.prog W 0 (fun _ => true) true Try.f7.params.toList args.toList ds p := hA0
  rw [Try.params7] at hA hval hsz
  have hAll := hA
  obtain ⟨v0, vs0, d0, ds0, p0, q0, hargs, rfl, rfl, h0, r0⟩ := trodAll_cons hA
  obtain ⟨v1, vs1, d1, ds1, p1, q1, rfl, rfl, rfl, h1, r1⟩ := trodAll_cons r0
  obtain ⟨rfl, rfl, rfl⟩ := trodAll_nil r1
  obtain rfl : args = #[v0, v1] := by cases args; simp_all
  obtain ⟨rfl, rfl⟩ := trodVars_none hV
  have z0 : (DataW.weightsEach Try.prog [31, 9] [d0, d1]).all (· ≤ reachBytes) = true := hsz
  obtain ⟨w0, z1⟩ := weights_cons z0
  obtain ⟨w1, z2⟩ := weights_cons z1
  obtain ⟨y0, f0, r0, k0⟩ := Go.Ev.open_argB (show shL Try.prog 30 31 = some (.roA false (.roI false .u8) 1) by kernel_rfl) (hval 0 31 v0 rfl rfl) h0 w0 bulk_ok
  obtain ⟨a0, rfl, e0⟩ := f0
  obtain ⟨y1, f1, r1, k1⟩ := Go.Ev.open_argB (show shL Try.prog 30 9 = some .str by kernel_rfl) (hval 1 9 v1 rfl rfl) h1 w1 bulk_ok
  obtain ⟨a1, rfl, e1⟩ := f1
  have hk' : Rows.uptoBulkAll [d0, d1] ≤ 1048576 := of_decide_eq_true hk
  simp only [Rows.uptoBulkAll] at hk'
  have b0 : a0.length ≤ 1048576 := by
    have g : Rows.uptoBulk d0 ≤ 1048576 := by omega
    rcases Go.Ev.slice_dat Try.underlying31 h0 r0 with ⟨_, z⟩ | ⟨es, ss, hd, z⟩
    · have z : a0.length = 0 := z
      omega
    · rw [hd] at g
      have z : a0.length = es.length := z
      have := bulk_len es
      simp only [Rows.uptoBulk] at g
      omega
  have b1 : a1.size ≤ 1048576 := by
    have q := Go.Ev.str_dat Try.underlying9 h1 r1
    have g : Rows.uptoBulk d1 ≤ 1048576 := by omega
    rw [q] at g
    simp only [Rows.uptoBulk, Array.length_toList] at g
    have e : a1.data.size = a1.size := rfl
    omega
  have hbk : Go.Ev.avBulks [(.ro false (.A (.roI false .u8) 1 a0)), (.v (.string a1))] ≤ 1048576 := by
    simp only [Go.Ev.avBulks]
    omega
  clear hA0 hval0 hsz0 hsz
  refine (walk P a0 a1 v0 v1 W ⟨b0, e0.2⟩ b1 hbk r0 r1).mono fun e W' ⟨he, bel⟩ => ?_
  subst he
  exact ⟨_, rfl, _, _, _, [], _, [], hW', trodAll_mk1 (shut_bool Try.underlying4 _), again_all (below_grown bel) (by kernel_rfl) hAll, rfl, bel.frame _, fun h => by cases h⟩
theorem over (P : Pure) : Rows.textPastesUptoRow.holds Try.pinned (Rows.OpenSpec.upto Rows.textPastesSpec) :=
  OpenClaim.holds_of_cond 7 Try.f7 rfl rfl rfl rfl rfl rfl rfl ⟨rfl, rfl, rfl, rfl, rfl⟩ rfl rfl rfl rfl rfl (by kernel_rfl) Try.func7 (by kernel_rfl)
    (of_decide_eq_true (by kernel_rfl)) (by unfold Func.isWrapper; first | (rw [if_pos (by decide +kernel)]; kernel_rfl) | (rw [if_neg (by decide +kernel)]; exact ⟨rfl, rfl⟩))
    (fun os started H enc _ F => lifted P os started H enc F)
theorem of_pure (P : Pure) : Rows.TextPastesUptoSaid := over P
end Go.Proofs.Ytlkhhhfoiipiaaa.textPastesUpto
namespace Go.Proofs.Ytlkhhhfoiipiaaa
theorem textPastesUptoTrue : Rows.TextPastesUptoSaid :=
  textPastesUpto.of_pure fun a0 a1 h0 _ hbk => Try.S.textPastes a0 a1 h0.2 hbk
end Go.Proofs.Ytlkhhhfoiipiaaa
