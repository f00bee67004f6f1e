/- What the functions of the library compute, as the kit has proved it, in the words of the evaluator. -/
import Derived.Test.YtoopjpccpnfeoaaDoorEvQ5
import Derived.Test.YtoopjpccpnfeoaaDoorProg
import Derived.Shelf.Vars
import Derived.Lib.Strings
import Derived.Lib.Slices
import Derived.Lib.Walk
import Derived.Lib.Builder
import Derived.Lib.AppendStr
import Derived.Lib.UnsafeStr
import Derived.Lib.MakeNoZero
import Derived.WalkKit
import Derived.Laws.Externs
import Derived.Laws.IdiomCopy
import Derived.Laws.BitsLemmas
import Derived.RangeFuncBox
import Derived.RangeFuncLeaves
import Derived.Shelf.Abstract
import Derived.OwnWalkIn
import Derived.TacticsInMore
import Derived.LoopNIn
import Derived.LoopIn
import Derived.Laws.DeepStrings4
import Derived.BigGuardIn
import Derived.Test.YtoopjpccpnfeoaaDoorShelf
import Derived.Lib.Replace
import Derived.Lib.TrimAscii
namespace Go.Ev
open Go
def trimL (s c : ByteArray) : ByteArray := ⟨(Lib.trimLeftS s.data.toList c.data.toList).toArray⟩
def replA (s o n : ByteArray) : ByteArray := ⟨(Lib.replaceAll s.data.toList o.data.toList n.data.toList).toArray⟩
def spTrimL : LSpec
  | [.string s, .string c] => some (ascii c && decide (c.size < 4294967281), .string (trimL s c))
  | _ => none
def spReplA : LSpec
  | [.string s, .string o, .string n] => some (decide (s.size < 4294967281) && (decide (1 ≤ o.size) && decide (s.size + Lib.countB s o * n.size ≤ 140737488355328)), .string (replA s o n))
  | _ => none
end Go.Ev
namespace Go.Proofs.Tryd
open Go Go.Ev
/-! ### strings.Builder -/
set_option maxHeartbeats 1000000
set_option maxRecDepth 100000
theorem bcopy : CopyOK Tryd.prog 59 76 where
  used := by
    intro b w h0
    have hsz : (Tryd.prog.info? 76).map (·.size) = some 2 := by kernel_rfl
    obtain ⟨j, hj, _⟩ := Option.map_eq_some_iff.1 hsz
    go_enter Tryd.func59, Tryd.ntmps59
    go_wp2
    rw [Lib.run_neq_ptr_same w _ Tryd.underlying74 hj]
    go_wp2
    go_end0
    exact ⟨rfl, rfl⟩
  fresh := by
    intro b w h0 hsh hfz
    have hsz : (Tryd.prog.info? 76).map (·.size) = some 2 := by kernel_rfl
    have hlies : liesAt Tryd.prog Tryd.prog.depth 76 (2 / Tryd.prog.cellsOf 76) 0 76 1 = true := by kernel_rfl
    obtain ⟨j, hj, hjs⟩ := Option.map_eq_some_iff.1 hsz
    go_enter Tryd.func59, Tryd.ntmps59
    go_wp2
    rw [Lib.run_to_unsafe w ⟨b, 0, none⟩ Tryd.underlying74 Tryd.underlying104 hj (by rw [hjs]; decide) hsh (Nat.zero_lt_succ 1)]
    simp only [Result.andThen]
    rw [Oper.upon_value]
    go_wp2
    rw [run_callFunc_extern Tryd.func71 (by kernel_rfl) (by kernel_rfl) (by kernel_rfl) (e := Extern.AbiNoEscape.same) (by kernel_rfl)]
    rw [Lib.run_noEscape]
    simp only [Result.andThen]
    rw [Oper.upon_value]
    go_wp2
    rw [Lib.run_from_unsafe w ⟨b, 0, none⟩ Tryd.underlying104 Tryd.underlying74 hj hsh hlies]
    simp only [Result.andThen]
    rw [Oper.upon_value]
    go_wp2
    go_end0
    exact ⟨rfl, rfl⟩
theorem bstr : StrOK Tryd.prog 46 where
  row := by
    intro b g o cap cells l w h0 hc1 hcap hsh hn h63 hcell
    have c1 : w.drew.cell? ⟨b, 1, none⟩ = some (.slice (some ⟨g, o, none⟩) l.length cap) := hc1
    have hSD : (Builtin.unsafeSliceData_ #[34] 91 #[.slice (some ⟨g, o, none⟩) l.length cap]).run Tryd.prog w.drew = .ok (.pointer (some ⟨g, o, none⟩)) w.drew := Lib.run_unsafeSliceData_row _ _ _ _ _ _ hcap
    have hUS : (Builtin.unsafeString_ #[91, 3] 9 #[.pointer (some ⟨g, o, none⟩), .int .i64 l.length]).run Tryd.prog w.drew = .ok (.string (strOf l)) (w.drew.freeze ⟨g, o, none⟩ l.length) :=
      run_unsafeStringI w.drew 91 3 9 5 Tryd.underlying91 (by kernel_rfl) g o cells hsh l h0 hn h63 hcell
    clear hcell
    go_enter Tryd.func46, Tryd.ntmps46
    go_wp2
    go_region
    all_goals (go_wp2; go_ret; exact ⟨rfl, rfl⟩)
  room := by
    intro b a cap w hc1 hcap
    have c1 : w.drew.cell? ⟨b, 1, none⟩ = some (.slice (some a) 0 cap) := hc1
    have hSD : (Builtin.unsafeSliceData_ #[34] 91 #[.slice (some a) 0 cap]).run Tryd.prog w.drew = .ok (.pointer (some a)) w.drew := Lib.run_unsafeSliceData_row _ _ _ _ _ _ hcap
    have hUS : (Builtin.unsafeString_ #[91, 3] 9 #[.pointer (some a), .int .i64 0]).run Tryd.prog w.drew = .ok (.string .empty) w.drew := Lib.run_unsafeString_none w.drew 91 3 9 (some a)
    go_enter Tryd.func46, Tryd.ntmps46
    go_wp2
    go_region
    all_goals (go_wp2; go_ret; exact ⟨rfl, rfl⟩)
  nil := by
    intro b w hc1
    have c1 : w.drew.cell? ⟨b, 1, none⟩ = some (.slice none 0 0) := hc1
    have hSD : (Builtin.unsafeSliceData_ #[34] 91 #[.slice none 0 0]).run Tryd.prog w.drew = .ok (.pointer none) w.drew := rfl
    have hUS : (Builtin.unsafeString_ #[91, 3] 9 #[.pointer none, .int .i64 0]).run Tryd.prog w.drew = .ok (.string .empty) w.drew := Lib.run_unsafeString_none w.drew 91 3 9 none
    go_enter Tryd.func46, Tryd.ntmps46
    go_wp2
    go_region
    all_goals (go_wp2; go_ret; exact ⟨rfl, rfl⟩)
theorem lib59 {R : Type} : CFOK (R := R) Tryd.prog 59 (cfCopy 76) := cfCopy_ok bcopy
theorem lib46 {R : Type} : CFOK (R := R) Tryd.prog 46 cfBStr := cfBStr_ok bstr
theorem bgrow : GrowOK Tryd.prog 60 76 where
  grow := by
    intro b n w p hbk hn
    obtain ⟨cs, hrun, hle, hbytes⟩ := run_makeNoZeroX (P := Tryd.prog) w.drew #[3] 34 5 Tryd.underlying34 n hn
    have hw : IntKind.i64.wrap (IntKind.i64.wrap 0 + (n : Int)) = n := by
      rw [IntKind.wrap_i64, IntKind.wrap_i64]
      omega
    have hcall : (callFunc 72 #[.int .i64 (IntKind.i64.wrap (IntKind.i64.wrap 0 + (n : Int)))]).run Tryd.prog w.drew = .ok (.value (.slice (some ⟨w.drew.heap.size, 0, none⟩) n cs.size)) (w.drew.drew.drew.alloc (.cells cs 5)) := by
      rw [hw, run_callFunc_extern Tryd.func72 (by kernel_rfl) (by kernel_rfl) (by kernel_rfl) (e := Extern.BytealgMakeNoZero.makeNoZero #[3] #[34]) (by kernel_rfl), hrun]
      rfl
    have c1 : w.drew.cell? ⟨b, 1, none⟩ = some (.slice none 0 0) := by
      have : w.drew.heap[b]? = _ := hbk
      rw [Lib.cell_of_heap this]; rfl
    have hlt : b < w.heap.size := by
      rcases Nat.lt_or_ge b w.heap.size with h' | h'
      · exact h'
      · simp [Array.getElem?_eq_none h'] at hbk
    have c2 : (w.alloc (.cells cs 5)).cell? ⟨b, 1, none⟩ = some (.slice none 0 0) := by
      have : (w.alloc (.cells cs 5)).heap[b]? = _ := (Lib.alloc_old w _ b hlt).trans hbk
      rw [Lib.cell_of_heap this]; rfl
    have f2 : (w.alloc (.cells cs 5)).frozen? ⟨b, 1, none⟩ = false := Lib.frozen_of_heap ((Lib.alloc_old w _ b hlt).trans hbk) 1
    have hsz5 : (Tryd.prog.info? 5).map (·.size) = some 1 := by kernel_rfl
    have hcopy : ∀ W : World, (Builtin.copy_ #[34, 34] 3 #[.slice (some ⟨w.heap.size, 0, none⟩) 0 cs.size, .slice none 0 0]).run Tryd.prog W = .ok (goInt 0) W :=
      fun W => run_copy_none W 34 34 3 5 _ _ 0 cs.size 0 0 Tryd.underlying34 hsz5 rfl
    clear hw hbytes
    go_enter Tryd.func60, Tryd.ntmps60
    go_wp2
    go_region
    all_goals (go_wp2; go_end0; exact ⟨rfl, cs, hle, rfl⟩)
theorem lib60 {R : Type} : CFOK (R := R) Tryd.prog 60 (cfGrow 76) := cfGrow_ok bgrow

def its0 : Its := fun _ => none
theorem its0_ok : ItsOK Tryd.prog its0 := fun f it h => by cases h
/-- the functions of the library that are told by their contracts -/
def base0 (R : Type) : FuncId → Option (CallF R) := (consO 59 (cfCopy 76) (consO 46 cfBStr (consO 60 (cfGrow 76) noO)))
theorem base0_ok (R : Type) : OOK Tryd.prog (base0 R) := (OOK.cons (by kernel_rfl) lib59 (OOK.cons (by kernel_rfl) lib46 (OOK.cons (by kernel_rfl) lib60 OOK.nil)))
set_option maxRecDepth 1000000 in
theorem awake_run : (inO Tryd.prog 2000 (fun _ E => E) base0 its0 40 Value 11).bind (fun cf => cf [] ⟨0, 0, [], [], [], []⟩ endV) = some (.bool true) := by kernel_rfl
theorem awake_lib : LibOK Tryd.prog 11 (spConst (.bool true)) := by
  obtain ⟨cf, ho, h⟩ := Option.bind_eq_some_iff.1 awake_run
  exact closed_ok (inO_ok base0_ok its0_ok 40 Value 11 cf ho).2 h
theorem lib11 {R : Type} : CFOK (R := R) Tryd.prog 11 (cfLib (spConst (.bool true))) := cfLib_ok awake_lib
end Go.Proofs.Tryd
namespace Go.Proofs.Tryd
open Go Go.Ev
theorem lib17 : LibOK Tryd.prog 17 spTrimL := by
  intro args v w h hs
  unfold spTrimL at h
  split at h
  · rename_i s c
    injection h with h; injection h with h1 h2; subst h2
    rw [Bool.and_eq_true, decide_eq_true_eq] at h1
    exact Any.strings_TrimLeft_laid Tryd.lays161 (by kernel_rfl) s c w h1.2 (ascii_spec h1.1)
  · cases h
theorem lib22 : LibOK Tryd.prog 22 spReplA := by
  intro args v w h hs
  unfold spReplA at h
  split at h
  · rename_i s o n
    injection h with h; injection h with h1 h2; subst h2
    rw [Bool.and_eq_true, Bool.and_eq_true, decide_eq_true_eq, decide_eq_true_eq, decide_eq_true_eq] at h1
    obtain ⟨m, hm⟩ := hs 2 (by decide)
    exact Any.strings_ReplaceAll Tryd.lays155 Tryd.Builder_Extra_155 s o n m w h1.1 hm h1.2.1 h1.2.2
  · cases h
end Go.Proofs.Tryd
namespace Go.Proofs
theorem Tryd.shpW (w : Go.World) (h : w.ShapedOpen Tryd.prog) : Go.Ev.ShpW w := by
  intro g hg
  obtain rfl : g = 2 := by simpa [Go.Ev.shpList] using hg
  exact cell_of_shapedOpen_int h (by decide +kernel) (t := 3) (zero := #[.int .i64 0]) (by kernel_rfl) rfl (by kernel_rfl) (by kernel_rfl) Tryd.underlying3
end Go.Proofs

