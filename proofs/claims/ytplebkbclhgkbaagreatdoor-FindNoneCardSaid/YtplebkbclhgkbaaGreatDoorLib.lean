/- What the functions of the library compute, as the kit has proved it, in the words of the evaluator. -/
import Derived.Test.YtplebkbclhgkbaaGreatDoorEv5
import Derived.Test.YtplebkbclhgkbaaGreatDoorProg
import Derived.Shelf.Vars
import Derived.Lib.Strings
import Derived.Lib.Slices
import Derived.Lib.Walk
import Derived.Lib.Builder
import Derived.Lib.AppendStr
import Derived.Lib.UnsafeStr
import Derived.Lib.MakeNoZero
import Derived.WalkKit
import Derived.Laws.Externs
import Derived.Laws.IdiomCopy
import Derived.Laws.BitsLemmas
import Derived.RangeFuncBox
import Derived.RangeFuncLeaves
import Derived.Shelf.Abstract
import Derived.OwnWalkIn
import Derived.TacticsInMore
import Derived.LoopNIn
import Derived.LoopIn
import Derived.Laws.DeepStrings4
import Derived.BigGuardIn
namespace Go.Proofs.Tryz
open Go Go.Ev
/-! ### strings.Builder -/
set_option maxHeartbeats 1000000
set_option maxRecDepth 100000
theorem bcopy : CopyOK Tryz.prog 81 111 where
  used := by
    intro b w h0
    have hsz : (Tryz.prog.info? 111).map (·.size) = some 2 := by kernel_rfl
    obtain ⟨j, hj, _⟩ := Option.map_eq_some_iff.1 hsz
    go_enter Tryz.func81, Tryz.ntmps81
    go_wp2
    rw [Lib.run_neq_ptr_same w _ Tryz.underlying109 hj]
    go_wp2
    go_end0
    exact ⟨rfl, rfl⟩
  fresh := by
    intro b w h0 hsh hfz
    have hsz : (Tryz.prog.info? 111).map (·.size) = some 2 := by kernel_rfl
    have hlies : liesAt Tryz.prog Tryz.prog.depth 111 (2 / Tryz.prog.cellsOf 111) 0 111 1 = true := by kernel_rfl
    obtain ⟨j, hj, hjs⟩ := Option.map_eq_some_iff.1 hsz
    go_enter Tryz.func81, Tryz.ntmps81
    go_wp2
    rw [Lib.run_to_unsafe w ⟨b, 0, none⟩ Tryz.underlying109 Tryz.underlying168 hj (by rw [hjs]; decide) hsh (Nat.zero_lt_succ 1)]
    simp only [Result.andThen]
    rw [Oper.upon_value]
    go_wp2
    rw [run_callFunc_extern Tryz.func111 (by kernel_rfl) (by kernel_rfl) (by kernel_rfl) (e := Extern.AbiNoEscape.same) (by kernel_rfl)]
    rw [Lib.run_noEscape]
    simp only [Result.andThen]
    rw [Oper.upon_value]
    go_wp2
    rw [Lib.run_from_unsafe w ⟨b, 0, none⟩ Tryz.underlying168 Tryz.underlying109 hj hsh hlies]
    simp only [Result.andThen]
    rw [Oper.upon_value]
    go_wp2
    go_end0
    exact ⟨rfl, rfl⟩
theorem bstr : StrOK Tryz.prog 50 where
  row := by
    intro b g o cap cells l w h0 hc1 hcap hsh hn h63 hcell
    have c1 : w.drew.cell? ⟨b, 1, none⟩ = some (.slice (some ⟨g, o, none⟩) l.length cap) := hc1
    have hSD : (Builtin.unsafeSliceData_ #[45] 140 #[.slice (some ⟨g, o, none⟩) l.length cap]).run Tryz.prog w.drew = .ok (.pointer (some ⟨g, o, none⟩)) w.drew := Lib.run_unsafeSliceData_row _ _ _ _ _ _ hcap
    have hUS : (Builtin.unsafeString_ #[140, 3] 9 #[.pointer (some ⟨g, o, none⟩), .int .i64 l.length]).run Tryz.prog w.drew = .ok (.string (strOf l)) (w.drew.freeze ⟨g, o, none⟩ l.length) :=
      run_unsafeStringI w.drew 140 3 9 5 Tryz.underlying140 (by kernel_rfl) g o cells hsh l h0 hn h63 hcell
    clear hcell
    go_enter Tryz.func50, Tryz.ntmps50
    go_wp2
    go_region
    all_goals (go_wp2; go_ret; exact ⟨rfl, rfl⟩)
  room := by
    intro b a cap w hc1 hcap
    have c1 : w.drew.cell? ⟨b, 1, none⟩ = some (.slice (some a) 0 cap) := hc1
    have hSD : (Builtin.unsafeSliceData_ #[45] 140 #[.slice (some a) 0 cap]).run Tryz.prog w.drew = .ok (.pointer (some a)) w.drew := Lib.run_unsafeSliceData_row _ _ _ _ _ _ hcap
    have hUS : (Builtin.unsafeString_ #[140, 3] 9 #[.pointer (some a), .int .i64 0]).run Tryz.prog w.drew = .ok (.string .empty) w.drew := Lib.run_unsafeString_none w.drew 140 3 9 (some a)
    go_enter Tryz.func50, Tryz.ntmps50
    go_wp2
    go_region
    all_goals (go_wp2; go_ret; exact ⟨rfl, rfl⟩)
  nil := by
    intro b w hc1
    have c1 : w.drew.cell? ⟨b, 1, none⟩ = some (.slice none 0 0) := hc1
    have hSD : (Builtin.unsafeSliceData_ #[45] 140 #[.slice none 0 0]).run Tryz.prog w.drew = .ok (.pointer none) w.drew := rfl
    have hUS : (Builtin.unsafeString_ #[140, 3] 9 #[.pointer none, .int .i64 0]).run Tryz.prog w.drew = .ok (.string .empty) w.drew := Lib.run_unsafeString_none w.drew 140 3 9 none
    go_enter Tryz.func50, Tryz.ntmps50
    go_wp2
    go_region
    all_goals (go_wp2; go_ret; exact ⟨rfl, rfl⟩)
theorem lib81 {R : Type} : CFOK (R := R) Tryz.prog 81 (cfCopy 111) := cfCopy_ok bcopy
theorem lib50 {R : Type} : CFOK (R := R) Tryz.prog 50 cfBStr := cfBStr_ok bstr
theorem bgrow : GrowOK Tryz.prog 82 111 where
  grow := by
    intro b n w p hbk hn
    obtain ⟨cs, hrun, hle, hbytes⟩ := run_makeNoZeroX (P := Tryz.prog) w.drew #[3] 45 5 Tryz.underlying45 n hn
    have hw : IntKind.i64.wrap (IntKind.i64.wrap 0 + (n : Int)) = n := by
      rw [IntKind.wrap_i64, IntKind.wrap_i64]
      omega
    have hcall : (callFunc 112 #[.int .i64 (IntKind.i64.wrap (IntKind.i64.wrap 0 + (n : Int)))]).run Tryz.prog w.drew = .ok (.value (.slice (some ⟨w.drew.heap.size, 0, none⟩) n cs.size)) (w.drew.drew.drew.alloc (.cells cs 5)) := by
      rw [hw, run_callFunc_extern Tryz.func112 (by kernel_rfl) (by kernel_rfl) (by kernel_rfl) (e := Extern.BytealgMakeNoZero.makeNoZero #[3] #[45]) (by kernel_rfl), hrun]
      rfl
    have c1 : w.drew.cell? ⟨b, 1, none⟩ = some (.slice none 0 0) := by
      have : w.drew.heap[b]? = _ := hbk
      rw [Lib.cell_of_heap this]; rfl
    have hlt : b < w.heap.size := by
      rcases Nat.lt_or_ge b w.heap.size with h' | h'
      · exact h'
      · simp [Array.getElem?_eq_none h'] at hbk
    have c2 : (w.alloc (.cells cs 5)).cell? ⟨b, 1, none⟩ = some (.slice none 0 0) := by
      have : (w.alloc (.cells cs 5)).heap[b]? = _ := (Lib.alloc_old w _ b hlt).trans hbk
      rw [Lib.cell_of_heap this]; rfl
    have f2 : (w.alloc (.cells cs 5)).frozen? ⟨b, 1, none⟩ = false := Lib.frozen_of_heap ((Lib.alloc_old w _ b hlt).trans hbk) 1
    have hsz5 : (Tryz.prog.info? 5).map (·.size) = some 1 := by kernel_rfl
    have hcopy : ∀ W : World, (Builtin.copy_ #[45, 45] 3 #[.slice (some ⟨w.heap.size, 0, none⟩) 0 cs.size, .slice none 0 0]).run Tryz.prog W = .ok (goInt 0) W :=
      fun W => run_copy_none W 45 45 3 5 _ _ 0 cs.size 0 0 Tryz.underlying45 hsz5 rfl
    clear hw hbytes
    go_enter Tryz.func82, Tryz.ntmps82
    go_wp2
    go_region
    all_goals (go_wp2; go_end0; exact ⟨rfl, cs, hle, rfl⟩)
theorem lib82 {R : Type} : CFOK (R := R) Tryz.prog 82 (cfGrow 111) := cfGrow_ok bgrow

def its0 : Its := fun _ => none
theorem its0_ok : ItsOK Tryz.prog its0 := fun f it h => by cases h
/-- the functions of the library that are told by their contracts -/
def base0 (R : Type) : FuncId → Option (CallF R) := (consO 81 (cfCopy 111) (consO 50 cfBStr (consO 82 (cfGrow 111) noO)))
theorem base0_ok (R : Type) : OOK Tryz.prog (base0 R) := (OOK.cons (by kernel_rfl) lib81 (OOK.cons (by kernel_rfl) lib50 (OOK.cons (by kernel_rfl) lib82 OOK.nil)))
set_option maxRecDepth 1000000 in
theorem awake_run : (inO Tryz.prog 2000 (fun _ E => E) base0 its0 40 Value 7).bind (fun cf => cf [] ⟨0, 0, [], [], [], []⟩ endV) = some (.bool true) := by kernel_rfl
theorem awake_lib : LibOK Tryz.prog 7 (spConst (.bool true)) := by
  obtain ⟨cf, ho, h⟩ := Option.bind_eq_some_iff.1 awake_run
  exact closed_ok (inO_ok base0_ok its0_ok 40 Value 7 cf ho).2 h
theorem lib7 {R : Type} : CFOK (R := R) Tryz.prog 7 (cfLib (spConst (.bool true))) := cfLib_ok awake_lib
end Go.Proofs.Tryz
namespace Go.Proofs
theorem Tryz.shpW (w : Go.World) (_ : w.ShapedOpen Tryz.prog) : Go.Ev.ShpW w := fun g hg => absurd hg (by simp [Go.Ev.shpList])
end Go.Proofs

