/- An evaluator of the model's code over abstract values, and its soundness, part 1: what it tells of a piece of code, each run of that code does. -/
import Derived.Below
import Derived.Calls
import Derived.LoopN
import Derived.Tactics
import Derived.KernelRfl
import Derived.Orders
import Derived.Laws.Entries
import Derived.Laws.Cells
import Derived.ChangeKeysEq
import Derived.Scope
set_option linter.unusedVariables false
set_option linter.unusedSimpArgs false
namespace Go.Ev
abbrev Key := Nat
/-- What an element of a row of abstract values looks like. -/
inductive Sh where
  | int (k : IntKind) | bool | str | roI (nw : Bool) (k : IntKind) | roS (nw : Bool) | roA (nw : Bool) (sh : Sh) (sz : Nat) | agg (l : List Sh) | any
mutual
/-- Abstract values. -/
inductive AV where
  | v (x : Value)
  | nils
  | ptr (k : Key) (off : Nat)
  | eptr (k : Key) (sz i j : Nat)
  | rp (x : AV) (j : Nat)
  | own (k : Key)
  | sl (k : Key) (sz off len : Nat)
  | ro (nw : Bool) (l : Lst)
  | fn (f : Fn) (first caps : List AV)
  | iface (t : TypeId) (x : AV)
  | agg (cs : List AV)
  | tuple (vs : List AV)
  | ownN (k : Key)
  | ownV (k : Key)
  | bself (k : Key) (off : Nat) (t : TypeId)
  | mp (k : Key)
  | csl (k : Key) (n : Nat)
/-- Rows of elements. -/
inductive Lst where
  | I (k : IntKind) (l : List Int)
  | S (l : List ByteArray)
  | A (sh : Sh) (sz : Nat) (l : List AV)
end
instance : Inhabited AV := ⟨.tuple []⟩
inductive AObj where
  | cells (cs : List AV)
  | row (own : Bool) (l : Lst)
  | iter (s : ByteArray) (pos : Nat)
  | mapS (es : List (ByteArray × ByteArray))
  | coll
  | dead
def AObj.owned : AObj → Bool
  | .cells _ => true
  | .row o _ => o
  | .iter .. => true
  | .mapS _ => true
  | .coll => true
  | .dead => false
structure St where
  n : Nat
  nk : Key
  ts : List (Nat × AV)
  ar : List (Key × AObj)
  tg : List (Key × Nat)
  df : List AV
inductive X where
  | normal | exit (id : Nat) | goto (l : Nat) | ret | pan (v : AV)

def look {α : Type} : List (Nat × α) → Nat → Option α
  | [], _ => none
  | (i, a) :: r, k => bif Nat.beq i k then some a else look r k
theorem look_cons {α : Type} (i : Nat) (a : α) (r : List (Nat × α)) (k : Nat) : look ((i, a) :: r) k = if i = k then some a else look r k := by
  show (bif Nat.beq i k then some a else look r k) = _
  by_cases h : i = k
  · subst h; simp [Nat.beq_refl]
  · have : Nat.beq i k = false := by
      cases hb : Nat.beq i k with
      | false => rfl
      | true => exact absurd (Nat.eq_of_beq_eq_true hb) h
    simp [this, h]

/-! ### elements -/
def AV.int! : AV → Int | .v (.int _ n) => n | _ => 0
def AV.bool! : AV → Bool | .v (.bool b) => b | _ => false
def AV.str! : AV → ByteArray | .v (.string s) => s | _ => ByteArray.empty
def AV.ints! : AV → List Int | .ro _ (.I _ l) => l | _ => []
def AV.strs! : AV → List ByteArray | .ro _ (.S l) => l | _ => []
def AV.avs! : AV → List AV | .ro _ (.A _ _ l) => l | _ => []
def AV.cells : AV → List AV | .agg cs => cs | x => [x]
def AV.cell (x : AV) (j : Nat) : AV := x.cells.getD j default
mutual
def view : Sh → AV → AV
  | .int k, x => .v (.int k x.int!)
  | .bool, x => .v (.bool x.bool!)
  | .str, x => .v (.string x.str!)
  | .roI nw k, x => .ro nw (.I k x.ints!)
  | .roS nw, x => .ro nw (.S x.strs!)
  | .roA nw sh sz, x => .ro nw (.A sh sz x.avs!)
  | .agg l, x => .agg (views l x 0)
  | .any, x => x
def views : List Sh → AV → Nat → List AV
  | [], _, _ => []
  | s :: r, x, i => view s (x.cell i) :: views r x (i + 1)
end
def Lst.sz : Lst → Nat | .I .. => 1 | .S .. => 1 | .A _ sz _ => sz
def Lst.length : Lst → Nat | .I _ l => l.length | .S l => l.length | .A _ _ l => l.length
def Lst.elem : Lst → Nat → AV
  | .I k l, i => .v (.int k (l.getD i 0))
  | .S l, i => .v (.string (l.getD i ByteArray.empty))
  | .A sh _ l, i => view sh (l.getD i default)
def Lst.take : Lst → Nat → Lst
  | .I k l, n => .I k (l.take n)
  | .S l, n => .S (l.take n)
  | .A sh sz l, n => .A sh sz (l.take n)
def Lst.drop : Lst → Nat → Lst
  | .I k l, n => .I k (l.drop n)
  | .S l, n => .S (l.drop n)
  | .A sh sz l, n => .A sh sz (l.drop n)

/-! ### what an abstract value stands for -/
structure Loc where
  b : Nat
  o : Nat
  n : Nat
  cp : Nat
abbrev Loci := Key → Option Loc
inductive Rep (w : World) (ok : Nat → Prop) (B : Nat) : Loci → AV → Value → Prop
  | v {ι} (x : Value) : Rep w ok B ι (.v x) x
  | nils {ι} : Rep w ok B ι .nils (.slice none 0 0)
  | ptr {ι k off L} : ι k = some L → Rep w ok B ι (.ptr k off) (.pointer (some ⟨L.b, off, none⟩))
  | eptr {ι k sz i j L} : ι k = some L → i < L.n → 0 < L.cp → Rep w ok B ι (.eptr k sz i j) (.pointer (some ⟨L.b, L.o + (i * sz + j), none⟩))
  | rp {ι x j b o} (val : Nat → Value) : ok b → (∀ q, q < x.cells.length → w.cell? ⟨b, o + q, none⟩ = some (val q)) → (∀ q, q < x.cells.length → Rep w ok B (fun _ => none) (x.cell q) (val q)) →
      Rep w ok B ι (.rp x j) (.pointer (some ⟨b, o + j, none⟩))
  | own {ι k L} : ι k = some L → 0 < L.cp → Rep w ok B ι (.own k) (.slice (some ⟨L.b, L.o, none⟩) L.n L.cp)
  | own0 {ι k L a} : ι k = some L → L.cp = 0 → L.n = 0 → Rep w ok B ι (.own k) (.slice a 0 0)
  | sl {ι k sz off len c L} : ι k = some L → off + len ≤ L.n → len ≤ c → off + c ≤ L.cp → 0 < c → Rep w ok B ι (.sl k sz off len) (.slice (some ⟨L.b, L.o + off * sz, none⟩) len c)
  | sl0 {ι k sz off len a L} : ι k = some L → len = 0 → off ≤ L.n → Rep w ok B ι (.sl k sz off len) (.slice a len 0)
  | ro {ι nw l a n c} (val : Nat → Nat → Value) : n = l.length → 0 < n → n ≤ c → ok a.block → (nw = true → B ≤ a.block) → a.spot = none →
      (∀ i j, i < n → j < l.sz → w.cell? ⟨a.block, a.off + (i * l.sz + j), none⟩ = some (val i j)) →
      (∀ i j, i < n → j < l.sz → Rep w ok B (fun _ => none) ((l.elem i).cell j) (val i j)) →
      (∀ i, i < n → (l.elem i).cells.length = l.sz) → Rep w ok B ι (.ro nw l) (.slice (some a) n c)
  | ro0 {ι nw l a n c} : n = l.length → n = 0 → Rep w ok B ι (.ro nw l) (.slice a n c)
  | fn {ι f first caps first' caps'} : first'.size = first.length → caps'.size = caps.length →
      (∀ i, i < first.length → Rep w ok B ι (first.getD i default) (first'.getD i undef)) →
      (∀ i, i < caps.length → Rep w ok B ι (caps.getD i default) (caps'.getD i undef)) → Rep w ok B ι (.fn f first caps) (.func f first' caps')
  | iface {ι t x x'} : Rep w ok B ι x x' → Rep w ok B ι (.iface t x) (.iface t x')
  | agg {ι cs vs} : vs.size = cs.length → (∀ i, i < cs.length → Rep w ok B ι (cs.getD i default) (vs.getD i undef)) → Rep w ok B ι (.agg cs) (.agg vs)
  | tuple {ι cs vs} : vs.size = cs.length → (∀ i, i < cs.length → Rep w ok B ι (cs.getD i default) (vs.getD i undef)) → Rep w ok B ι (.tuple cs) (.tuple vs)
  | ownN {ι k L} : ι k = some L → 0 < L.cp → 0 < L.n → Rep w ok B ι (.ownN k) (.slice (some ⟨L.b, L.o, none⟩) L.n L.cp)
  | ownN0 {ι k L} : ι k = some L → L.cp = 0 → L.n = 0 → Rep w ok B ι (.ownN k) (.slice none 0 0)
  | ownV {ι k L} : ι k = some L → 0 < L.cp → Rep w ok B ι (.ownV k) (.slice (some ⟨L.b, L.o, none⟩) L.n L.cp)
  | ownV0 {ι k L} : ι k = some L → L.cp = 0 → L.n = 0 → Rep w ok B ι (.ownV k) (.slice none 0 0)
  | bself {ι k off t L v} : ι k = some L → L.cp = 1 → L.n = t → (v = .pointer none ∨ v = .pointer (some ⟨L.b, off, none⟩)) → Rep w ok B ι (.bself k off t) v
  | mp {ι k L} : ι k = some L → L.cp = 1 → Rep w ok B ι (.mp k) (.map (some L.b))
  | csl {ι k n L} : ι k = some L → Rep w ok B ι (.csl k n) (.slice (some ⟨L.b, 0, none⟩) n n)

theorem cell_of_heap {w w' : World} {a : Addr} (h : w'.heap[a.block]? = w.heap[a.block]?) : w'.cell? a = w.cell? a := by
  unfold World.cell?; rw [h]
theorem frozen_of_heap {w w' : World} {a : Addr} (h : w'.heap[a.block]? = w.heap[a.block]?) : w'.frozen? a = w.frozen? a := by
  unfold World.frozen?; rw [h]

theorem Rep.mono {w w' : World} {ok ok' : Nat → Prop} {B : Nat} {ι ι' : Loci} {x : AV} {v : Value} (h : Rep w ok B ι x v)
    (hw : ∀ b, ok b → w'.heap[b]? = w.heap[b]?) (hok : ∀ b, ok b → ok' b) (hι : ∀ k L, ι k = some L → ι' k = some L) : Rep w' ok' B ι' x v := by
  induction h generalizing ι' with
  | v x => exact .v x
  | nils => exact .nils
  | ptr h => exact .ptr (hι _ _ h)
  | eptr h h1 h2 => exact .eptr (hι _ _ h) h1 h2
  | rp val h1 h2 h3 ih => exact .rp val (hok _ h1) (fun q hq => (cell_of_heap (a := ⟨_, _, none⟩) (hw _ h1)).trans (h2 q hq)) (fun q hq => ih q hq (fun _ _ h => by cases h))
  | own h h1 => exact .own (hι _ _ h) h1
  | own0 h h1 h2 => exact .own0 (hι _ _ h) h1 h2
  | sl h h1 h2 h3 h4 => exact .sl (hι _ _ h) h1 h2 h3 h4
  | sl0 h h1 h2 => exact .sl0 (hι _ _ h) h1 h2
  | ro val h1 h2 h3 h4 h5 h6 h7 h8 h9 ih =>
    exact .ro val h1 h2 h3 (hok _ h4) h5 h6 (fun i j hi hj => (cell_of_heap (a := ⟨_, _, none⟩) (hw _ h4)).trans (h7 i j hi hj)) (fun i j hi hj => ih i j hi hj (fun _ _ h => by cases h)) h9
  | ro0 h1 h2 => exact .ro0 h1 h2
  | fn h1 h2 h3 h4 ih3 ih4 => exact .fn h1 h2 (fun i hi => ih3 i hi hι) (fun i hi => ih4 i hi hι)
  | iface h ih => exact .iface (ih hι)
  | agg h1 h2 ih => exact .agg h1 (fun i hi => ih i hi hι)
  | tuple h1 h2 ih => exact .tuple h1 (fun i hi => ih i hi hι)
  | ownN h h1 h2 => exact .ownN (hι _ _ h) h1 h2
  | ownN0 h h1 h2 => exact .ownN0 (hι _ _ h) h1 h2
  | ownV h h1 => exact .ownV (hι _ _ h) h1
  | ownV0 h h1 h2 => exact .ownV0 (hι _ _ h) h1 h2
  | bself h h1 h2 h3 => exact .bself (hι _ _ h) h1 h2 h3
  | mp h h1 => exact .mp (hι _ _ h) h1
  | csl h => exact .csl (hι _ _ h)

/-- A world that has grown: what was there is there. -/
structure Grown (w w' : World) : Prop where
  os : w'.os = w.os
  tape : w'.tape = w.tape
  output : w'.output = w.output
  size : w.heap.size ≤ w'.heap.size
  block : ∀ b, b < w.heap.size → w'.heap[b]? = w.heap[b]?
theorem Grown.refl (w : World) : Grown w w := ⟨rfl, rfl, rfl, Nat.le_refl _, fun _ _ => rfl⟩
theorem Grown.cell {w w' : World} (h : Grown w w') {a : Addr} {v : Value} (hc : w.cell? a = some v) : w'.cell? a = some v := by
  have hb : a.block < w.heap.size := by
    rcases Nat.lt_or_ge a.block w.heap.size with c | c
    · exact c
    · unfold World.cell? at hc
      rw [Array.getElem?_eq_none c] at hc
      cases hc
  rw [cell_of_heap (h.block _ hb)]; exact hc
/-- A row's elements lie at a place. -/
def RowAt (w : World) (ok : Nat → Prop) (B b o : Nat) (l : Lst) : Prop :=
  ∃ val : Nat → Nat → Value, (∀ i j, i < l.length → j < l.sz → w.cell? ⟨b, o + (i * l.sz + j), none⟩ = some (val i j)) ∧
    (∀ i j, i < l.length → j < l.sz → Rep w ok B (fun _ => none) ((l.elem i).cell j) (val i j)) ∧ (∀ i, i < l.length → (l.elem i).cells.length = l.sz)
theorem RowAt.mono {w w' : World} {ok ok' : Nat → Prop} {B b o : Nat} {l : Lst} (h : RowAt w ok B b o l) (hb : w'.heap[b]? = w.heap[b]?)
    (hw : ∀ b, ok b → w'.heap[b]? = w.heap[b]?) (hok : ∀ b, ok b → ok' b) : RowAt w' ok' B b o l := by
  obtain ⟨val, h1, h2, h3⟩ := h
  exact ⟨val, fun i j hi hj => (cell_of_heap (a := ⟨_, _, none⟩) hb).trans (h1 i j hi hj), fun i j hi hj => (h2 i j hi hj).mono hw hok (fun _ _ h => h), h3⟩

/-- the type 'uint8' (the programs' runtime types come first, so it has this number) -/
abbrev u8T : TypeId := 5
/-- a row of bytes of one's own lies in a block of bytes -/
def rowTy : Lst → TypeId → Prop
  | .I .u8 _, t => t = u8T
  | _, _ => True
def rowTyB : Lst → TypeId → Bool
  | .I .u8 _, t => Nat.beq t u8T
  | _, _ => true
theorem rowTyB_ok : ∀ {l : Lst} {t : TypeId}, rowTyB l t = true → rowTy l t
  | .I k l, t, h => by cases k <;> first | exact Nat.eq_of_beq_eq_true h | trivial
  | .S l, t, h => trivial
  | .A sh sz l, t, h => trivial
def ObjOK (w : World) (ok : Nat → Prop) (B : Nat) (ι : Loci) (k : Key) : AObj → Prop
  | .cells cs => ∃ L vs t, ι k = some L ∧ (L.cp = 1 ∧ L.n = t) ∧ w.heap[L.b]? = some (.cells vs t (0, 0)) ∧ vs.size = cs.length ∧
      ∀ i, i < cs.length → Rep w ok B ι (cs.getD i default) (vs.getD i undef)
  | .row own l => ∃ L, ι k = some L ∧ L.n = l.length ∧ L.n ≤ L.cp ∧ (0 < L.cp → ∃ vs t fr, w.heap[L.b]? = some (.cells vs t fr) ∧
      (own = true → (fr.1 = fr.2 ∨ vs.size ≤ fr.1) ∧ rowTy l t) ∧ (own = false → ok L.b) ∧ L.o + L.cp * l.sz ≤ vs.size ∧ RowAt w ok B L.b L.o l)
  | .iter s pos => ∃ L, ι k = some L ∧ L.cp = 1 ∧ w.heap[L.b]? = some (.stringIter s pos)
  | .mapS es => ∃ L vs c, ι k = some L ∧ L.cp = 1 ∧ w.heap[L.b]? = some (.map vs c) ∧ vs.toList.map (fun e => (e.key, e.val)) = es.map fun p => (Value.string p.1, Value.agg #[.string p.2])
  | .coll => ∃ L, ι k = some L ∧ L.cp = 1 ∧ w.heap[L.b]? = some (.deferred (some []))
  | .dead => True
theorem frozen_free {w : World} {b i : Nat} {vs : Array Value} {t : TypeId} {fr : Nat × Nat} (h : w.heap[b]? = some (.cells vs t fr)) (hf : fr.1 = fr.2 ∨ vs.size ≤ fr.1) (hi : i < vs.size) : w.frozen? ⟨b, i, none⟩ = false := by
  unfold World.frozen?
  obtain ⟨lo, hg⟩ := fr
  simp only [h]
  simp only at hf
  simp
  omega
theorem ObjOK.mono {w w' : World} {ok ok' : Nat → Prop} {B : Nat} {ι ι' : Loci} {k : Key} {o : AObj} (h : ObjOK w ok B ι k o)
    (hb : ∀ L, ι k = some L → 0 < L.cp → w'.heap[L.b]? = w.heap[L.b]?)
    (hw : ∀ b, ok b → w'.heap[b]? = w.heap[b]?) (hok : ∀ b, ok b → ok' b) (hι : ∀ k L, ι k = some L → ι' k = some L) : ObjOK w' ok' B ι' k o := by
  cases o with
  | cells cs =>
    obtain ⟨L, vs, t, h1, h2, h3, h4, h5⟩ := h
    exact ⟨L, vs, t, hι _ _ h1, h2, by rw [hb L h1 (by have := h2.1; omega)]; exact h3, h4, fun i hi => (h5 i hi).mono hw hok hι⟩
  | row own l =>
    obtain ⟨L, h1, h2, h3, h4⟩ := h
    refine ⟨L, hι _ _ h1, h2, h3, fun hc => ?_⟩
    obtain ⟨vs, t, fr, g1, g2, g3, g4, g5⟩ := h4 hc
    have e := hb L h1 hc
    exact ⟨vs, t, fr, by rw [e]; exact g1, g2, fun ho => hok _ (g3 ho), g4, g5.mono e hw hok⟩
  | iter s pos =>
    obtain ⟨L, h1, h2, h3⟩ := h
    exact ⟨L, hι _ _ h1, h2, by rw [hb L h1 (by omega)]; exact h3⟩
  | mapS es =>
    obtain ⟨L, vs, c, h1, h2, h3, h4⟩ := h
    exact ⟨L, vs, c, hι _ _ h1, h2, by rw [hb L h1 (by omega)]; exact h3, h4⟩
  | coll =>
    obtain ⟨L, h1, h2, h3⟩ := h
    exact ⟨L, hι _ _ h1, h2, by rw [hb L h1 (by omega)]; exact h3⟩
  | dead => trivial

/-- the blocks of package variables that are known to hold a number -/
def shpList : List Nat := [2]
def ShpW (w : World) : Prop := ∀ g ∈ shpList, ∃ m : Int, w.cell? ⟨g, 0, none⟩ = some (.int .i64 m)
structure Base where
  w0 : World
  ok0 : Nat → Prop
  own0 : Nat → Prop
  B : Nat
  hB : B ≤ w0.heap.size
  loc : Nat → Option Loc
  shp : ShpW w0
  shpo : ∀ g ∈ shpList, ¬ own0 g
abbrev Base.N (b : Base) : Nat := b.w0.heap.size
/-- what a value on the list of deferred calls stands for: a closure without arguments; a pointer: the mark of a range over a function -/
def defOf : Value → Deferred
  | .func f _ caps => { target := .fn f caps, args := #[] }
  | .pointer (some a) => { target := .collected a.block, args := #[] }
  | _ => { target := .nil, args := #[] }
def DefRep (w : World) (ok : Nat → Prop) (B : Nat) (ι : Loci) (x : AV) (d : Deferred) : Prop :=
  ∃ (v : Value) (_ : Unit), Rep w ok B ι x v ∧ d = defOf v

structure SimI (G : Base) (ι : Loci) (ok : Nat → Prop) (st : St) (a : Act) (w : World) : Prop where
  size : a.tmps.size = st.n
  dfn : a.defers.length = st.df.length
  dfs : ∀ (i : Nat) (x : AV) (d : Deferred), st.df[i]? = some x → a.defers[i]? = some d → DefRep w ok G.B ι x d
  tags : ∀ k j, look st.tg k = some j → ι k = G.loc j ∧ ∃ L, ι k = some L
  slots : ∀ t x, look st.ts t = some x → t < st.n ∧ Rep w ok G.B ι x (a.tmps.getD t undef)
  objs : ∀ k o, look st.ar k = some o → ObjOK w ok G.B ι k o
  inj : ∀ k₁ k₂ o₁ o₂ L₁ L₂, look st.ar k₁ = some o₁ → look st.ar k₂ = some o₂ → o₁.owned = true → o₂.owned = true → ι k₁ = some L₁ → ι k₂ = some L₂ →
    0 < L₁.cp → 0 < L₂.cp → L₁.b = L₂.b → k₁ = k₂
  apart : ∀ k o L, look st.ar k = some o → o.owned = true → ι k = some L → 0 < L.cp → ¬ ok L.b ∧ (G.own0 L.b ∨ G.N ≤ L.b)
  fresh : ∀ k, st.nk ≤ k → ι k = none
  os : w.os = G.w0.os
  tape : w.tape = G.w0.tape
  output : w.output = G.w0.output
  heap : G.N ≤ w.heap.size
  block : ∀ b, b < G.N → ¬ G.own0 b → w.heap[b]? = G.w0.heap[b]?
  okin : ∀ b, G.ok0 b → ok b
  oksub : ∀ b, ok b → G.ok0 b ∨ G.own0 b ∨ G.N ≤ b
  oklt : ∀ b, ok b → b < w.heap.size
def Sim (G : Base) (st : St) (a : Act) (w : World) : Prop := ∃ ι ok, SimI G ι ok st a w

theorem SimI.shp {G : Base} {ι : Loci} {ok : Nat → Prop} {st : St} {a : Act} {w : World} (h : SimI G ι ok st a w) : ShpW w := by
  intro g hg
  obtain ⟨m, hm⟩ := G.shp g hg
  have hb : g < G.w0.heap.size := by
    rcases Nat.lt_or_ge g G.w0.heap.size with c | c
    · exact c
    · unfold World.cell? at hm
      rw [Array.getElem?_eq_none c] at hm
      cases hm
  refine ⟨m, ?_⟩
  rw [cell_of_heap (h.block g hb (G.shpo g hg))]; exact hm
theorem SimI.shpOwn {G : Base} {ι : Loci} {ok : Nat → Prop} {st : St} {a : Act} {w : World} (h : SimI G ι ok st a w) {g : Nat} (hg : g ∈ shpList) {k : Key} {o : AObj} {L : Loc} (hk : look st.ar k = some o) (ho : o.owned = true)
    (hl : ι k = some L) (hc : 0 < L.cp) : L.b ≠ g := by
  intro e
  obtain ⟨m, hm⟩ := G.shp g hg
  have hb : g < G.w0.heap.size := by
    rcases Nat.lt_or_ge g G.w0.heap.size with c | c
    · exact c
    · unfold World.cell? at hm
      rw [Array.getElem?_eq_none c] at hm
      cases hm
  rcases (h.apart k o L hk ho hl hc).2 with q | q
  · rw [e] at q; exact G.shpo g hg q
  · rw [e] at q; exact Nat.lt_irrefl _ (Nat.lt_of_lt_of_le hb q)
def St.put (st : St) (d : Option Nat) (a : AV) : St :=
  match d with
  | some d => { st with ts := (d, a) :: st.ts }
  | none => st
def dstOk (n : Nat) : Option Nat → Bool
  | some d => Nat.blt d n
  | none => true

theorem SimI.put {G : Base} {ι : Loci} {ok : Nat → Prop} {st : St} {a : Act} {w : World} (h : SimI G ι ok st a w) {d : Option Nat} (hd : dstOk st.n d = true) {x : AV} {v : Value}
    (hx : Rep w ok G.B ι x v) : SimI G ι ok (st.put d x) (a.put d v) w := by
  cases d with
  | none => exact h
  | some d =>
    have hd' : d < st.n := by simpa [dstOk, Nat.blt_eq] using hd
    exact { h with
      size := by simpa [Act.put, St.put] using h.size
      dfn := by simpa [Act.put, St.put] using h.dfn
      dfs := by simpa [Act.put, St.put] using h.dfs
      tags := by simpa [St.put] using h.tags
      slots := by
        intro t y hy
        simp only [St.put, look_cons] at hy
        split at hy
        · rename_i e; subst e; injection hy with hy; subst hy
          refine ⟨hd', ?_⟩
          have : d < a.tmps.size := by rw [h.size]; exact hd'
          simpa [Act.put, Array.getD, this] using hx
        · rename_i e
          obtain ⟨h1, h2⟩ := h.slots t y hy
          refine ⟨h1, ?_⟩
          have e2 : (a.put (some d) v).tmps.getD t undef = a.tmps.getD t undef := by
            simp only [Act.put, Array.getD_eq_getD_getElem?, Array.getElem?_setIfInBounds]
            rw [if_neg e]
          rw [e2]; exact h2 }
end Go.Ev

namespace Go.Ev
def XSim (G : Base) : X → St → Exit → Act → World → Prop
  | .normal, st, ex, a, w => ex = .normal ∧ Sim G st a w
  | .exit i, st, ex, a, w => ex = .exit i ∧ Sim G st a w
  | .goto l, st, ex, a, w => ex = .goto l ∧ Sim G st a w
  | .ret, st, ex, a, w => ex = .ret ∧ Sim G st a w
  | .pan v, st, ex, a, w => ∃ ι ok cv, ex = .panic [{ v := cv, recovered := false }] ∧ Rep w ok G.B ι v cv ∧ SimI G ι ok st a w
/-- From what is told by st the operation comes to what is told by st'. -/
def RunsOp (P : Program) (o : Oper) (st : St) (x : X) (st' : St) : Prop :=
  ∀ (G : Base) (a : Act) (w : World) (next : Act → World → Prop) (Q : Exit → Act → World → Prop), Sim G st a w →
    (∀ ex a' w', XSim G x st' ex a' w' → Exit.then next Q ex a' w') → o.wp P a w next Q

def leaf : Value → AV
  | .slice none 0 0 => .nils
  | x => .v x
def ofVal : Value → AV
  | .agg cs => .agg (cs.toList.map leaf)
  | x => leaf x
/-- a row that is nil just if it is empty, as any row -/
def unN : AV → AV
  | .ownN k => .own k
  | .ownV k => .own k
  | x => x
theorem rep_unN {w : World} {ok : Nat → Prop} {B : Nat} {ι : Loci} {x : AV} {v : Value} (h : Rep w ok B ι x v) : Rep w ok B ι (unN x) v := by
  unfold unN
  split
  · cases h with
    | ownN a b c => exact .own a b
    | ownN0 a b c => exact .own0 a b c
  · cases h with
    | ownV a b => exact .own a b
    | ownV0 a b c => exact .own0 a b c
  · exact h
def opndR (st : St) : Operand → Option AV
  | .tmp t => look st.ts t
  | .const v => some (ofVal v)
  | .func f => some (.fn (.func f) [] [])
  | .global _ => none
def opnd (st : St) : Operand → Option AV
  | .tmp t => match look st.ts t with
    | some x => some (unN x)
    | none => none
  | .const v => some (ofVal v)
  | .func f => some (.fn (.func f) [] [])
  | .global _ => none

theorem rep_leaf {w : World} {ok : Nat → Prop} {B : Nat} {ι : Loci} (v : Value) : Rep w ok B ι (leaf v) v := by
  unfold leaf
  split
  · exact .nils
  · exact .v _
theorem rep_ofVal {w : World} {ok : Nat → Prop} {B : Nat} {ι : Loci} (v : Value) : Rep w ok B ι (ofVal v) v := by
  unfold ofVal
  split
  · rename_i cs
    refine .agg (by simp) (fun i hi => ?_)
    have hi' : i < cs.size := by simpa using hi
    simp only [List.getD_eq_getElem?_getD, List.getElem?_map, Array.getElem?_toList, Array.getD_eq_getD_getElem?]
    rw [Array.getElem?_eq_getElem hi']
    exact rep_leaf _
  · exact rep_leaf _
theorem SimI.opnd {G : Base} {ι : Loci} {ok : Nat → Prop} {st : St} {a : Act} {w : World} (h : SimI G ι ok st a w) {x : Operand} {y : AV} (hx : opnd st x = some y) :
    Rep w ok G.B ι y (a.eval x) := by
  cases x with
  | tmp t =>
    simp only [Ev.opnd] at hx
    split at hx
    · rename_i z hz
      injection hx with hx; subst hx
      exact rep_unN (h.slots t z hz).2
    · cases hx
  | const v => injection hx with hx; subst hx; exact rep_ofVal v
  | func f => injection hx with hx; subst hx; exact .fn rfl rfl (fun i hi => by simp at hi) (fun i hi => by simp at hi)
  | global g => cases hx

theorem SimI.opndR {G : Base} {ι : Loci} {ok : Nat → Prop} {st : St} {a : Act} {w : World} (h : SimI G ι ok st a w) {x : Operand} {y : AV} (hx : opndR st x = some y) :
    Rep w ok G.B ι y (a.eval x) := by
  cases x with
  | tmp t => exact (h.slots t y hx).2
  | const v => injection hx with hx; subst hx; exact rep_ofVal v
  | func f => injection hx with hx; subst hx; exact .fn rfl rfl (fun i hi => by simp at hi) (fun i hi => by simp at hi)
  | global g => cases hx
theorem runs_value {P : Program} {o : Oper} {st : St} {x : AV} (hd : dstOk st.n o.dst = true)
    (h : ∀ G ι ok a w, SimI G ι ok st a w → ∃ v, (execOp a.eval o).run P w = .ok (.value v) w ∧ Rep w ok G.B ι x v) : RunsOp P o st .normal (st.put o.dst x) := by
  rintro G a w next Q ⟨ι, ok, hs⟩ hk
  obtain ⟨v, hr, hv⟩ := h G ι ok a w hs
  unfold Oper.wp
  rw [hr]
  exact hk .normal _ _ ⟨rfl, ι, ok, hs.put hd hv⟩

theorem rep_v_inv {w : World} {ok : Nat → Prop} {B : Nat} {ι : Loci} {x v : Value} (h : Rep w ok B ι (.v x) v) : v = x := by cases h; rfl

section
variable {R : Type}
/-- A value for the operation's place. -/
def fin (o : Oper) (st : St) (K : X → St → Option R) (x : AV) : Option R := bif dstOk st.n o.dst then K .normal (st.put o.dst x) else none

def intBin (op : BinOp) (k : IntKind) (a b : Int) (K : AV → Option R) : Option R :=
  match op with
  | .add => K (.v (.int k (k.wrap (a + b))))
  | .sub => K (.v (.int k (k.wrap (a - b))))
  | .mul => K (.v (.int k (k.wrap (a * b))))
  | .quo => bif b == 0 then none else K (.v (.int k (k.wrap (a.tdiv b))))
  | .rem => bif b == 0 then none else K (.v (.int k (a.tmod b)))
  | .and => K (.v (.int k (k.wrap (BitVec.ofInt k.bits a &&& BitVec.ofInt k.bits b).toNat)))
  | .or => K (.v (.int k (k.wrap (BitVec.ofInt k.bits a ||| BitVec.ofInt k.bits b).toNat)))
  | .xor => K (.v (.int k (k.wrap (BitVec.ofInt k.bits a ^^^ BitVec.ofInt k.bits b).toNat)))
  | .andNot => K (.v (.int k (k.wrap (BitVec.ofInt k.bits a &&& ~~~ (BitVec.ofInt k.bits b)).toNat)))
  | .eql => K (.v (.bool (a == b)))
  | .neq => K (.v (.bool (a != b)))
  | .lss => K (.v (.bool (decide (a < b))))
  | .leq => K (.v (.bool (decide (a ≤ b))))
  | .gtr => K (.v (.bool (decide (a > b))))
  | .geq => K (.v (.bool (decide (a ≥ b))))
  | _ => none
def strBin (op : BinOp) (a b : ByteArray) (K : AV → Option R) : Option R :=
  match op with
  | .add => bif decide (a.size + b.size ≤ 9223372036854775807) then K (.v (.string (a ++ b))) else none
  | .eql => K (.v (.bool (a.toList == b.toList)))
  | .neq => K (.v (.bool !(a.toList == b.toList)))
  | .lss => K (.v (.bool (Op.bytesLess a.toList b.toList)))
  | .leq => K (.v (.bool (Op.bytesLess a.toList b.toList || a.toList == b.toList)))
  | .gtr => K (.v (.bool !(Op.bytesLess a.toList b.toList || a.toList == b.toList)))
  | .geq => K (.v (.bool !(Op.bytesLess a.toList b.toList)))
  | _ => none
def shiftBin (op : BinOp) (k : IntKind) (a b : Int) (K : AV → Option R) : Option R :=
  match op with
  | .shl => bif decide (b < 0) then none else K (.v (.int k (k.wrap (a * 2 ^ (min b.toNat k.bits)))))
  | .shr => bif decide (b < 0) then none else K (.v (.int k (a.fdiv (2 ^ (min b.toNat k.bits)))))
  | _ => none
def isShift : BinOp → Bool | .shl | .shr => true | _ => false
end

theorem intBin_ok {R : Type} {P : Program} {op : BinOp} {k : IntKind} {a b : Int} {K : AV → Option R} {r : R} (hs : isShift op = false) (h : intBin op k a b K = some r) :
    ∃ v, (∀ t w, (binOp op t (.int k a) (.int k b)).run P w = .ok v w) ∧ K (.v v) = some r := by
  cases op <;> simp only [intBin, isShift] at h hs
  case quo =>
    cases hb : (b == 0) <;> rw [hb] at h <;> simp only [cond_true, cond_false] at h
    · have hb' : b ≠ 0 := by simpa using hb
      refine ⟨_, fun _ _ => ?_, h⟩
      simp only [binOp, Op.intDiv, ne_eq, not_true_eq_false, if_false, hb']; rfl
    · cases h
  case rem =>
    cases hb : (b == 0) <;> rw [hb] at h <;> simp only [cond_true, cond_false] at h
    · have hb' : b ≠ 0 := by simpa using hb
      refine ⟨_, fun _ _ => ?_, h⟩
      simp only [binOp, Op.intDiv, ne_eq, not_true_eq_false, if_false, hb']; rfl
    · cases h
  case shl => cases hs
  case shr => cases hs
  all_goals exact ⟨_, fun _ _ => by simp only [binOp, ne_eq, not_true_eq_false, if_false]; rfl, h⟩
theorem shiftBin_ok {R : Type} {P : Program} {op : BinOp} {k k' : IntKind} {a b : Int} {K : AV → Option R} {r : R} (h : shiftBin op k a b K = some r) :
    ∃ v, (∀ t w, (binOp op t (.int k a) (.int k' b)).run P w = .ok v w) ∧ K (.v v) = some r := by
  cases op <;> simp only [shiftBin] at h <;> try (exact absurd h (by simp))
  all_goals
    cases hb : decide (b < 0) <;> rw [hb] at h <;> simp only [cond_true, cond_false] at h
    · have hb' : ¬ b < 0 := by simpa using hb
      refine ⟨_, fun _ _ => ?_, h⟩
      simp only [binOp, Op.shift, hb', if_false]; rfl
    · cases h
theorem strBin_ok {R : Type} {P : Program} {op : BinOp} {a b : ByteArray} {K : AV → Option R} {r : R} (h : strBin op a b K = some r) :
    ∃ v, (∀ t w, (binOp op t (.string a) (.string b)).run P w = .ok v w) ∧ K (.v v) = some r := by
  cases op <;> simp only [strBin] at h
  case add =>
    cases hb : decide (a.size + b.size ≤ 9223372036854775807) <;> rw [hb] at h <;> simp only [cond_true, cond_false] at h
    · cases h
    · have hb' : a.size + b.size ≤ 9223372036854775807 := by simpa using hb
      refine ⟨_, fun _ _ => ?_, h⟩
      have e : ¬ (((a.size + b.size : Nat) : Int) > IntKind.i64.max) := by
        have : IntKind.i64.max = 9223372036854775807 := by decide
        rw [this]; omega
      simp only [binOp, Op.stringOp]
      rw [if_neg e]; rfl
  all_goals first | exact ⟨_, fun _ _ => rfl, h⟩ | exact absurd h (by simp)
end Go.Ev

namespace Go.Ev
section
variable {R : Type}
/-! ### operations that only compute -/
def evPick (o : Oper) (c a b : Operand) (st : St) (K : X → St → Option R) : Option R :=
  match opnd st c with
  | some (.v (.bool t)) => bif t then (match opnd st a with | some x => fin o st K x | none => none) else (match opnd st b with | some x => fin o st K x | none => none)
  | _ => none
def evMove (o : Oper) (x : Operand) (st : St) (K : X → St → Option R) : Option R :=
  match opndR st x with
  | some y => fin o st K y
  | none => none
def evUn (o : Oper) (op : UnOp) (x : Operand) (st : St) (K : X → St → Option R) : Option R :=
  match op, opnd st x with
  | .neg, some (.v (.int k n)) => fin o st K (.v (.int k (k.wrap (0 - n))))
  | .xor, some (.v (.int k n)) => fin o st K (.v (.int k (k.wrap (BitVec.ofInt k.bits (if k.signed then -1 else k.max) ^^^ BitVec.ofInt k.bits n).toNat)))
  | .not, some (.v (.bool b)) => fin o st K (.v (.bool !b))
  | _, _ => none
def evExtract (o : Oper) (x : Operand) (i : Nat) (st : St) (K : X → St → Option R) : Option R :=
  match opnd st x with
  | some (.tuple vs) => match vs[i]? with
    | some y => fin o st K y
    | none => none
  | _ => none
def isNilV : AV → Bool | .v (.pointer none) => true | .v .nilIface => true | .v .nilFunc => true | .v (.map none) => true | .nils => true | _ => false
/-- Is it surely no nil? -/
def isSome : AV → Bool | .ptr .. => true | .iface .. => true | .fn .. => true | _ => false
def evBin (P : Program) (o : Oper) (op : BinOp) (t : TypeId) (x y : Operand) (st : St) (K : X → St → Option R) : Option R :=
  match opnd st x, opnd st y with
  | some (.v (.int k a)), some (.v (.int k' b)) =>
    bif isShift op then shiftBin op k a b (fin o st K) else bif k == k' then intBin op k a b (fin o st K) else none
  | some (.v (.string a)), some (.v (.string b)) => strBin op a b (fin o st K)
  | some (.v (.bool a)), some (.v (.bool b)) => match P.underlying t, op with
    | some .bool, .eql => fin o st K (.v (.bool (a == b)))
    | some .bool, .neq => fin o st K (.v (.bool (!(a == b))))
    | _, _ => none
  | _, _ => none
def evConv (P : Program) (o : Oper) (src dst : TypeId) (x : Operand) (st : St) (K : X → St → Option R) : Option R :=
  match P.underlying src, P.underlying dst, opnd st x with
  | some _, some (.int k), some (.v (.int _ n)) => fin o st K (.v (.int k (k.wrap n)))
  | some _, some .string, some (.v (.string s)) => fin o st K (.v (.string s))
  | _, _, _ => none
def evIndex (P : Program) (o : Oper) (t : TypeId) (x i : Operand) (st : St) (K : X → St → Option R) : Option R :=
  match P.underlying t, opnd st x, opnd st i with
  | some .string, some (.v (.string s)), some (.v (.int _ n)) =>
    bif decide (0 ≤ n) && decide (n < s.size) then fin o st K (.v (.int .u8 ((s.data.getD n.toNat 0).toNat))) else none
  | _, _, _ => none
end
theorem fin_some {R : Type} {o : Oper} {st : St} {K : X → St → Option R} {x : AV} {r : R} (h : fin o st K x = some r) :
    dstOk st.n o.dst = true ∧ K .normal (st.put o.dst x) = some r := by
  unfold fin at h
  cases hd : dstOk st.n o.dst <;> rw [hd] at h
  · cases h
  · exact ⟨rfl, h⟩
theorem runs_fin {R : Type} {P : Program} {o : Oper} {st : St} {K : X → St → Option R} {x : AV} {r : R} (h : fin o st K x = some r)
    (hr : ∀ G ι ok a w, SimI G ι ok st a w → ∃ v, (execOp a.eval o).run P w = .ok (.value v) w ∧ Rep w ok G.B ι x v) :
    ∃ x st', RunsOp P o st x st' ∧ K x st' = some r :=
  ⟨.normal, _, runs_value (fin_some h).1 hr, (fin_some h).2⟩
/-- an operation that leaves the world alone and yields one value -/
def RunsFin (P : Program) (o : Oper) (st : St) (x : AV) : Prop := ∀ G ι ok a w, SimI G ι ok st a w → ∃ v, (execOp a.eval o).run P w = .ok (.value v) w ∧ Rep w ok G.B ι x v
def Fin {R : Type} (P : Program) (o : Oper) (st : St) (K : X → St → Option R) (r : R) : Prop := ∃ x, RunsFin P o st x ∧ fin o st K x = some r
theorem fin_intro {R : Type} {P : Program} {o : Oper} {st : St} {K : X → St → Option R} {x : AV} {r : R} (h : fin o st K x = some r)
    (hr : ∀ G ι ok a w, SimI G ι ok st a w → ∃ v, (execOp a.eval o).run P w = .ok (.value v) w ∧ Rep w ok G.B ι x v) : Fin P o st K r := ⟨x, hr, h⟩
/-- the same value, whatever the world -/
def RunsAny (P : Program) (o : Oper) (st : St) (x : AV) : Prop := ∀ G ι ok a w, SimI G ι ok st a w → ∃ v, (∀ w', (execOp a.eval o).run P w' = .ok (.value v) w') ∧ Rep w ok G.B ι x v
def FinAny {R : Type} (P : Program) (o : Oper) (st : St) (K : X → St → Option R) (r : R) : Prop := ∃ x, RunsAny P o st x ∧ fin o st K x = some r
theorem finAny_intro {R : Type} {P : Program} {o : Oper} {st : St} {K : X → St → Option R} {x : AV} {r : R} (h : fin o st K x = some r)
    (hr : ∀ G ι ok a w, SimI G ι ok st a w → ∃ v, (∀ w', (execOp a.eval o).run P w' = .ok (.value v) w') ∧ Rep w ok G.B ι x v) : FinAny P o st K r := ⟨x, hr, h⟩
theorem FinAny.fin {R : Type} {P : Program} {o : Oper} {st : St} {K : X → St → Option R} {r : R} (h : FinAny P o st K r) : Fin P o st K r := by
  obtain ⟨x, hr, h⟩ := h
  exact ⟨x, fun G ι ok a w hs => by obtain ⟨v, h1, h2⟩ := hr G ι ok a w hs; exact ⟨v, h1 w, h2⟩, h⟩
theorem Fin.ok {R : Type} {P : Program} {o : Oper} {st : St} {K : X → St → Option R} {r : R} (h : Fin P o st K r) : ∃ x st', RunsOp P o st x st' ∧ K x st' = some r := by
  obtain ⟨x, hr, h⟩ := h
  exact runs_fin h hr
theorem run_ok {α β : Type} {P : Program} {w w' : World} {s : Sem α} {f : α → Sem β} {v : α} (h : s.run P w = .ok v w') : (s >>= f).run P w = (f v).run P w' := by
  show (Sem.bind s f).run P w = _
  rw [Sem.run_bind', h]; rfl
theorem exec_v {P : Program} {w w' : World} {s : Sem Value} {v : Value} (h : s.run P w = .ok v w') : (do pure (Next.value (← s)) : Sem Next).run P w = .ok (.value v) w' := by
  rw [run_ok h]; rfl

section
variable {R : Type} {P : Program} {o : Oper} {st : St} {K : X → St → Option R} {r : R}
theorem evMove_fin {x : Operand} (ho : o.op = .move x ∨ o.op = .assign x) (h : evMove o x st K = some r) :
    Fin P o st K r := by
  unfold evMove at h
  split at h
  · rename_i y hy
    refine fin_intro h (fun G ι ok a w hs => ⟨a.eval x, ?_, hs.opndR hy⟩)
    rcases ho with ho | ho <;> (unfold execOp; rw [ho]; rfl)
  · cases h
theorem evMove_ok {x : Operand} (ho : o.op = .move x ∨ o.op = .assign x) (h : evMove o x st K = some r) :
    ∃ x st', RunsOp P o st x st' ∧ K x st' = some r := (evMove_fin ho h).ok
theorem evPick_fin {c x y : Operand} (ho : o.op = .pick c x y) (h : evPick o c x y st K = some r) :
    Fin P o st K r := by
  unfold evPick at h
  split at h
  · rename_i t ht
    cases t <;> simp only [cond_true, cond_false] at h <;> split at h
    · rename_i z hz
      refine fin_intro h (fun G ι ok a w hs => ⟨a.eval y, ?_, hs.opnd hz⟩)
      have := rep_v_inv (hs.opnd ht)
      unfold execOp; rw [ho]; simp only [this]; rfl
    · cases h
    · rename_i z hz
      refine fin_intro h (fun G ι ok a w hs => ⟨a.eval x, ?_, hs.opnd hz⟩)
      have := rep_v_inv (hs.opnd ht)
      unfold execOp; rw [ho]; simp only [this]; rfl
    · cases h
  · cases h
theorem evPick_ok {c x y : Operand} (ho : o.op = .pick c x y) (h : evPick o c x y st K = some r) :
    ∃ x st', RunsOp P o st x st' ∧ K x st' = some r := (evPick_fin ho h).ok
theorem evUn_fin {op : UnOp} {t : TypeId} {x : Operand} (ho : o.op = .unOp op t x) (h : evUn o op x st K = some r) :
    Fin P o st K r := by
  unfold evUn at h
  split at h <;> first
    | (rename_i z hz
       refine fin_intro h (fun G ι ok a w hs => ⟨_, ?_, .v _⟩)
       have := rep_v_inv (hs.opnd hz)
       unfold execOp; rw [ho]; simp only [this]; rfl)
    | (rename_i z z' hz
       refine fin_intro h (fun G ι ok a w hs => ⟨_, ?_, .v _⟩)
       have := rep_v_inv (hs.opnd hz)
       unfold execOp; rw [ho]; simp only [this]; rfl)
    | cases h
theorem evUn_ok {op : UnOp} {t : TypeId} {x : Operand} (ho : o.op = .unOp op t x) (h : evUn o op x st K = some r) :
    ∃ x st', RunsOp P o st x st' ∧ K x st' = some r := (evUn_fin ho h).ok
theorem rep_tuple_inv {w : World} {ok : Nat → Prop} {B : Nat} {ι : Loci} {cs : List AV} {v : Value} (h : Rep w ok B ι (.tuple cs) v) :
    ∃ vs, v = .tuple vs ∧ vs.size = cs.length ∧ ∀ i, i < cs.length → Rep w ok B ι (cs.getD i default) (vs.getD i undef) := by
  cases h; exact ⟨_, rfl, ‹_›, ‹_›⟩
theorem rep_agg_inv {w : World} {ok : Nat → Prop} {B : Nat} {ι : Loci} {cs : List AV} {v : Value} (h : Rep w ok B ι (.agg cs) v) :
    ∃ vs, v = .agg vs ∧ vs.size = cs.length ∧ ∀ i, i < cs.length → Rep w ok B ι (cs.getD i default) (vs.getD i undef) := by
  cases h; exact ⟨_, rfl, ‹_›, ‹_›⟩
theorem evExtract_fin {x : Operand} {i : Nat} (ho : o.op = .extract x i) (h : evExtract o x i st K = some r) :
    Fin P o st K r := by
  unfold evExtract at h
  split at h
  · rename_i vs hv
    split at h
    · rename_i y hy
      refine fin_intro h (fun G ι ok a w hs => ?_)
      obtain ⟨vs', e, hl, hr⟩ := rep_tuple_inv (hs.opnd hv)
      have hi : i < vs.length := by
        rcases Nat.lt_or_ge i vs.length with h | h
        · exact h
        · rw [List.getElem?_eq_none h] at hy; cases hy
      have hi' : i < vs'.size := by omega
      have := hr i hi
      rw [List.getD_eq_getElem?_getD, hy] at this
      refine ⟨vs'.getD i undef, ?_, this⟩
      unfold execOp; rw [ho]
      refine exec_v ?_
      rw [e]
      simp only [Instr.extract, Array.getD_eq_getD_getElem?, Array.getElem?_eq_getElem hi']; rfl
    · cases h
  · cases h
theorem evExtract_ok {x : Operand} {i : Nat} (ho : o.op = .extract x i) (h : evExtract o x i st K = some r) :
    ∃ x st', RunsOp P o st x st' ∧ K x st' = some r := (evExtract_fin ho h).ok
theorem run_under {t : TypeId} {d : TypeDesc} {w : World} (h : P.underlying t = some d) : (underlying t).run P w = .ok d w := run_underlying h w
theorem exec_bin {op : BinOp} {t t' : TypeId} {x y : Operand} {a : Act} {w : World} {v : Value} (ho : o.op = .binOp op t x y t')
    (hg : (eqGuard op t x y (a.eval x) (a.eval y)).run P w = .ok () w) (hv : (binOp op t (a.eval x) (a.eval y)).run P w = .ok v w) : (execOp a.eval o).run P w = .ok (.value v) w := by
  unfold execOp; rw [ho]
  refine exec_v ?_
  rw [run_ok hg]; exact hv
theorem guard_other {op : BinOp} {t : TypeId} {x y : Operand} {a b : Value} {w : World} (h1 : ¬ (a = .nilIface ∧ b = .nilIface)) (h2 : ¬ ∃ p q, a = .agg p ∧ b = .agg q) :
    (eqGuard op t x y a b).run P w = .ok () w := by
  cases op <;> first
    | rfl
    | (cases a <;> cases b <;> first
        | rfl
        | exact absurd ⟨rfl, rfl⟩ h1
        | exact absurd ⟨_, _, rfl, rfl⟩ h2)
theorem evBin_fin {op : BinOp} {t t' : TypeId} {x y : Operand} (ho : o.op = .binOp op t x y t') (h : evBin P o op t x y st K = some r) :
    Fin P o st K r := by
  unfold evBin at h
  split at h
  · rename_i k a k' b hx hy
    cases hsft : isShift op <;> rw [hsft] at h <;> simp only [cond_true, cond_false] at h
    · cases hk : (k == k') <;> rw [hk] at h <;> simp only [cond_true, cond_false] at h
      · cases h
      · have hk' : k = k' := by simpa using hk
        subst hk'
        obtain ⟨v, hv, hK⟩ := intBin_ok (P := P) hsft h
        refine fin_intro hK (fun G ι ok a' w hs => ⟨v, ?_, .v _⟩)
        have e1 := rep_v_inv (hs.opnd hx)
        have e2 := rep_v_inv (hs.opnd hy)
        refine exec_bin ho (by rw [e1, e2]; exact guard_other (by simp) (by simp)) (by rw [e1, e2]; exact hv _ _)
    · obtain ⟨v, hv, hK⟩ := shiftBin_ok (P := P) (k' := k') h
      refine fin_intro hK (fun G ι ok a' w hs => ⟨v, ?_, .v _⟩)
      have e1 := rep_v_inv (hs.opnd hx)
      have e2 := rep_v_inv (hs.opnd hy)
      refine exec_bin ho (by rw [e1, e2]; exact guard_other (by simp) (by simp)) (by rw [e1, e2]; exact hv _ _)
  · rename_i a b hx hy
    obtain ⟨v, hv, hK⟩ := strBin_ok (P := P) h
    refine fin_intro hK (fun G ι ok a' w hs => ⟨v, ?_, .v _⟩)
    have e1 := rep_v_inv (hs.opnd hx)
    have e2 := rep_v_inv (hs.opnd hy)
    refine exec_bin ho (by rw [e1, e2]; exact guard_other (by simp) (by simp)) (by rw [e1, e2]; exact hv _ _)
  · rename_i a b hx hy
    split at h
    · rename_i hu
      refine fin_intro h (fun G ι ok a' w hs => ⟨_, ?_, .v _⟩)
      have e1 := rep_v_inv (hs.opnd hx)
      have e2 := rep_v_inv (hs.opnd hy)
      refine exec_bin ho (by rw [e1, e2]; exact guard_other (by simp) (by simp)) ?_
      rw [e1, e2]
      have he : (Op.equal t (.bool a) (.bool b)).run P w = .ok (a == b) w := by
        unfold Op.equal Op.maxDepth Op.equalIn
        rw [run_ok (run_under hu)]; rfl
      show (do pure (Value.bool (← Op.equal t (.bool a) (.bool b))) : Sem Value).run P w = _
      rw [run_ok he]; rfl
    · rename_i hu
      refine fin_intro h (fun G ι ok a' w hs => ⟨_, ?_, .v _⟩)
      have e1 := rep_v_inv (hs.opnd hx)
      have e2 := rep_v_inv (hs.opnd hy)
      refine exec_bin ho (by rw [e1, e2]; exact guard_other (by simp) (by simp)) ?_
      rw [e1, e2]
      have he : (Op.equal t (.bool a) (.bool b)).run P w = .ok (a == b) w := by
        unfold Op.equal Op.maxDepth Op.equalIn
        rw [run_ok (run_under hu)]; rfl
      show (do pure (Value.bool (!(← Op.equal t (.bool a) (.bool b)))) : Sem Value).run P w = _
      rw [run_ok he]; rfl
    · cases h
  · cases h
theorem evBin_ok {op : BinOp} {t t' : TypeId} {x y : Operand} (ho : o.op = .binOp op t x y t') (h : evBin P o op t x y st K = some r) :
    ∃ x st', RunsOp P o st x st' ∧ K x st' = some r := (evBin_fin ho h).ok
theorem evConv_fin {src dst : TypeId} {x : Operand} (ho : o.op = .convert src dst x) (h : evConv P o src dst x st K = some r) :
    Fin P o st K r := by
  unfold evConv at h
  split at h
  · rename_i d k k' n hs1 hd hx
    refine fin_intro h (fun G ι ok a w hs => ⟨_, ?_, .v _⟩)
    have e1 := rep_v_inv (hs.opnd hx)
    unfold execOp; rw [ho]
    refine exec_v ?_
    rw [e1]
    unfold convert
    rw [run_ok (run_under hs1), run_ok (run_under hd)]
    cases d <;> rfl
  · rename_i d s hs1 hd hx
    refine fin_intro h (fun G ι ok a w hs => ⟨_, ?_, .v _⟩)
    have e1 := rep_v_inv (hs.opnd hx)
    unfold execOp; rw [ho]
    refine exec_v ?_
    rw [e1]
    unfold convert
    rw [run_ok (run_under hs1), run_ok (run_under hd)]
    cases d <;> rfl
  · cases h
theorem evConv_ok {src dst : TypeId} {x : Operand} (ho : o.op = .convert src dst x) (h : evConv P o src dst x st K = some r) :
    ∃ x st', RunsOp P o st x st' ∧ K x st' = some r := (evConv_fin ho h).ok
theorem evIndex_fin {t : TypeId} {x i : Operand} (ho : o.op = .index t x i) (h : evIndex P o t x i st K = some r) :
    Fin P o st K r := by
  unfold evIndex at h
  split at h
  · rename_i s k n hu hx hi
    cases hb : (decide (0 ≤ n) && decide (n < s.size)) <;> rw [hb] at h <;> simp only [cond_true, cond_false] at h
    · cases h
    · have hb' : 0 ≤ n ∧ n < s.size := by simpa using hb
      refine fin_intro h (fun G ι ok a w hs => ⟨_, ?_, .v _⟩)
      have e1 := rep_v_inv (hs.opnd hx)
      have e2 := rep_v_inv (hs.opnd hi)
      unfold execOp; rw [ho]
      refine exec_v ?_
      rw [e1, e2]
      unfold Instr.index
      have hk : (asIntOf (.int k n)).run P w = .ok (k, n) w := rfl
      rw [run_ok hk, run_ok (run_under hu)]
      have hn : n.toNat < s.size := by omega
      have e3 : s[n.toNat]? = some (s.data.getD n.toNat 0) := by
        have hn' : n.toNat < s.data.size := hn
        rw [Array.getD_eq_getD_getElem?, Array.getElem?_eq_getElem hn']
        exact getElem?_pos s n.toNat hn
      simp only [hb'.1, if_true, e3]; rfl
  · cases h
theorem evIndex_ok {t : TypeId} {x i : Operand} (ho : o.op = .index t x i) (h : evIndex P o t x i st K = some r) :
    ∃ x st', RunsOp P o st x st' ∧ K x st' = some r := (evIndex_fin ho h).ok
end
end Go.Ev

namespace Go.Ev
def Runs (P : Program) (c : Code) (st : St) (x : X) (st' : St) : Prop :=
  ∀ (G : Base) (a : Act) (w : World) (Q : Exit → Act → World → Prop), Sim G st a w → (∀ ex a' w', XSim G x st' ex a' w' → Q ex a' w') → c.wp P Q a w

section
variable {R : Type}
abbrev EvO (R : Type) := Oper → St → (X → St → Option R) → Option R
abbrev EvL (R : Type) := Nat → Option (St → (X → St → Option R) → Option R)
/-- a yes or no that is known -/
def St.know (st : St) (d : Nat) (b : Bool) : St := { st with ts := (d, .v (.bool b)) :: st.ts }
/-- the operations of a region, one behind the other -/
def evOps (E : EvO R) (all : Array Oper) : List Oper → St → (X → St → Option R) → Option R
  | [], st, K => K .normal st
  | o :: r, st, K =>
    match o.guard with
    | none => E o st fun x st => match x with
      | .normal => evOps E all r st K
      | x => K x st
    | some (j, want) =>
      match (all[j]?).bind (·.dst) with
      | some d => match look st.ts d with
        | some (.v (.bool b)) =>
          bif b then (bif want then (E o (st.know d true) fun x st => match x with
              | .normal => evOps E all r st K
              | x => K x st) else (bif dstOk st.n o.dst then evOps E all r ((st.know d true).put o.dst (.v undef)) K else none))
          else (bif want then (bif dstOk st.n o.dst then evOps E all r ((st.know d false).put o.dst (.v undef)) K else none)
            else (E o (st.know d false) fun x st => match x with
              | .normal => evOps E all r st K
              | x => K x st))
        | some (.v (.tuple _)) => bif dstOk st.n o.dst then evOps E all r (st.put o.dst (.v undef)) K else none
        | _ => none
      | none => none
/-- the code of a body; at the places that L marks what is known of it -/
def evCode (E : EvO R) (L : EvL R) (p : Nat) : Code → St → (X → St → Option R) → Option R
  | .skip, st, K => K .normal st
  | .label _, st, K => K .normal st
  | .region _ ops draw, st, K => bif draw then (match L p with
    | some f => f st K
    | none => none) else evOps E ops ops.toList st K
  | .seq a b, st, K => match L p with
    | some f => f st K
    | none => evCode E L (2 * p) a st fun x st => match x with
      | .normal => evCode E L (2 * p + 1) b st K
      | x => K x st
  | .cond c a b, st, K => match L p with
    | some f => f st K
    | none => match opnd st c with
      | some (.v (.bool t)) => bif t then evCode E L (2 * p) a st K else evCode E L (2 * p + 1) b st K
      | _ => none
  | .block id c, st, K => match L p with
    | some f => f st K
    | none => evCode E L (2 * p) c st fun x st => match x with
      | .exit i => bif Nat.beq i id then K .normal st else K (.exit i) st
      | x => K x st
  | .loop _, st, K => match L p with
    | some f => f st K
    | none => none
  | .scope c, st, K => match L p with
    | some f => f st K
    | none => evCode E L (2 * p) c st fun x st => match x with
      | .goto _ => none
      | x => K x st
  | .rangeFunc _ _ _ _, st, K => match L p with
    | some f => f st K
    | none => none
  | .exit id, st, K => K (.exit id) st
  | .goto l, st, K => K (.goto l) st
  | .ret, st, K => K .ret st
  | _, _, _ => none
end
def EOK {R : Type} (P : Program) (E : EvO R) : Prop := ∀ o st K r, E o st K = some r → ∃ x st', RunsOp P o st x st' ∧ K x st' = some r
def LOK {R : Type} (P : Program) (f : St → (X → St → Option R) → Option R) (c : Code) : Prop := ∀ st K r, f st K = some r → ∃ x st', Runs P c st x st' ∧ K x st' = some r
def LGood {R : Type} (P : Program) (L : EvL R) (p : Nat) : Code → Prop
  | .seq a b => match L p with
    | some f => LOK P f (.seq a b)
    | none => LGood P L (2 * p) a ∧ LGood P L (2 * p + 1) b
  | .cond c a b => match L p with
    | some f => LOK P f (.cond c a b)
    | none => LGood P L (2 * p) a ∧ LGood P L (2 * p + 1) b
  | .block id c => match L p with
    | some f => LOK P f (.block id c)
    | none => LGood P L (2 * p) c
  | .loop c => match L p with
    | some f => LOK P f (.loop c)
    | none => True
  | .region id ops draw => match L p with
    | some f => LOK P f (.region id ops draw) ∨ draw = false
    | none => True
  | .scope c => match L p with
    | some f => LOK P f (.scope c)
    | none => LGood P L (2 * p) c
  | .rangeFunc g ps a b => match L p with
    | some f => LOK P f (.rangeFunc g ps a b)
    | none => True
  | _ => True

theorem XSim.sim {G : Base} {x : X} {st : St} {ex : Exit} {a : Act} {w : World} (h : XSim G x st ex a w) : Sim G st a w := by
  cases x with
  | pan v => obtain ⟨ι, ok, _, _, _, h⟩ := h; exact ⟨ι, ok, h⟩
  | _ => exact h.2
/-- operations, in order -/
def RunsOps (P : Program) (all : Array Oper) (l : List Oper) (st : St) (x : X) (st' : St) : Prop :=
  ∀ (G : Base) (a : Act) (w : World) (Q : Exit → Act → World → Prop), Sim G st a w → (∀ ex a' w', XSim G x st' ex a' w' → Q ex a' w') → wpList P all Q l a w

theorem evOps_ok {R : Type} {P : Program} {E : EvO R} (hE : EOK P E) {all : Array Oper} : ∀ (l : List Oper) (st : St) (K : X → St → Option R) (r : R), evOps E all l st K = some r →
    ∃ x st', RunsOps P all l st x st' ∧ K x st' = some r := by
  intro l
  induction l with
  | nil => intro st K r h; exact ⟨.normal, st, fun G a w Q hs hq => hq .normal a w ⟨rfl, hs⟩, h⟩
  | cons o l ih =>
    intro st K r h
    -- what the operation does, if it is wanted
    have main : ∀ (st : St) (hE' : (E o st fun x st => match x with
            | .normal => evOps E all l st K
            | x => K x st) = some r), (∀ G a w, Sim G st a w → Region.wanted o (yielded all a.tmps) = true) → ∃ x st', RunsOps P all (o :: l) st x st' ∧ K x st' = some r := by
      intro st hE' hw
      obtain ⟨x, st₁, ho, hK⟩ := hE _ _ _ _ hE'
      by_cases hx : x = .normal
      · subst hx
        obtain ⟨x₂, st₂, hl, hK₂⟩ := ih _ _ _ hK
        refine ⟨x₂, st₂, fun G a w Q hs hq => ?_, hK₂⟩
        rw [wpList, if_pos (hw G a w hs)]
        refine .inl (ho G a w _ _ hs ?_)
        rintro ex a' w' ⟨rfl, hs'⟩
        exact hl G a' w' Q hs' hq
      · refine ⟨x, st₁, fun G a w Q hs hq => ?_, by cases x <;> first | exact absurd rfl hx | exact hK⟩
        rw [wpList, if_pos (hw G a w hs)]
        refine .inl (ho G a w _ _ hs ?_)
        intro ex a' w' h'
        have := hq ex a' w' h'
        cases x with
        | normal => exact absurd rfl hx
        | exit i => obtain ⟨rfl, _⟩ := h'; exact this
        | goto i => obtain ⟨rfl, _⟩ := h'; exact this
        | ret => obtain ⟨rfl, _⟩ := h'; exact this
        | pan v => obtain ⟨_, _, _, rfl, _⟩ := h'; exact this
    -- what comes behind it, if it is passed over
    have over : ∀ (st : St), (bif dstOk st.n o.dst then evOps E all l (st.put o.dst (.v undef)) K else none) = some r → (∀ G a w, Sim G st a w → Region.wanted o (yielded all a.tmps) = false) →
        ∃ x st', RunsOps P all (o :: l) st x st' ∧ K x st' = some r := by
      intro st h hw
      cases hdk : dstOk st.n o.dst <;> rw [hdk] at h <;> simp only [cond_true, cond_false] at h
      · cases h
      · obtain ⟨x, st', hl, hK⟩ := ih _ _ _ h
        refine ⟨x, st', fun G a w Q hs hq => ?_, hK⟩
        rw [wpList, if_neg (by rw [hw G a w hs]; simp)]
        obtain ⟨ι, ok, hs⟩ := hs
        exact hl G _ w Q ⟨ι, ok, hs.put hdk (.v undef)⟩ hq
    unfold evOps at h
    split at h
    · rename_i hg
      exact main _ h (fun G a w hs => by unfold Region.wanted; rw [hg])
    · rename_i j want hg
      split at h
      · rename_i d hd
        have hy : ∀ {x : Value} {st : St}, look st.ts d = some (.v x) → ∀ G a w, Sim G st a w → yielded all a.tmps j = (match x with | .bool b => some b | _ => none) := by
          rintro x st hb G a w ⟨ι, ok, hs⟩
          obtain ⟨h1, h2⟩ := hs.slots _ _ hb
          have h2 := rep_v_inv h2
          unfold yielded
          rw [hd]
          have hlt : d < a.tmps.size := by rw [hs.size]; exact h1
          rw [Array.getD_eq_getD_getElem?, Array.getElem?_eq_getElem hlt] at h2
          simp only [Option.bind_some, Array.getElem?_eq_getElem hlt]
          simp only [Option.getD_some] at h2
          rw [h2]
          cases x <;> rfl
        split at h
        · rename_i b hb
          have hknow : look (st.know d b).ts d = some (.v (.bool b)) := by simp [St.know, look_cons]
          have up : ∀ G a w, Sim G st a w → Sim G (st.know d b) a w := by
            rintro G a w ⟨ι, ok, hs⟩
            refine ⟨ι, ok, { hs with slots := ?_ }⟩
            intro t x hx
            simp only [St.know, look_cons] at hx
            split at hx
            · rename_i e; subst e; injection hx with hx; subst hx; exact hs.slots _ _ hb
            · exact hs.slots _ _ hx
          have hw : ∀ G a w, Sim G (st.know d b) a w → Region.wanted o (yielded all a.tmps) = (some b == some want) := by
            intro G a w hs
            unfold Region.wanted; rw [hg]
            show (yielded all a.tmps j == some want) = _
            rw [hy hknow G a w hs]
          have wrap : (∃ x st', RunsOps P all (o :: l) (st.know d b) x st' ∧ K x st' = some r) → ∃ x st', RunsOps P all (o :: l) st x st' ∧ K x st' = some r := by
            rintro ⟨x, st', h1, h2⟩
            exact ⟨x, st', fun G a w Q hs hq => h1 G a w Q (up G a w hs) hq, h2⟩
          refine wrap ?_
          cases b <;> cases want <;> simp only [cond_true, cond_false] at h
          · exact main _ h (fun G a w hs => by rw [hw G a w hs]; rfl)
          · exact over _ h (fun G a w hs => by rw [hw G a w hs]; rfl)
          · exact over _ h (fun G a w hs => by rw [hw G a w hs]; rfl)
          · exact main _ h (fun G a w hs => by rw [hw G a w hs]; rfl)
        · rename_i vs hb
          refine over _ h (fun G a w hs => ?_)
          unfold Region.wanted; rw [hg]
          show (yielded all a.tmps j == some want) = _
          rw [hy hb G a w hs]; rfl
        · cases h
      · cases h

theorem evCode_ok {R : Type} {P : Program} {E : EvO R} (hE : EOK P E) {L : EvL R} : ∀ (c : Code) (p : Nat) (st : St) (K : X → St → Option R) (r : R), LGood P L p c → evCode E L p c st K = some r →
    ∃ x st', Runs P c st x st' ∧ K x st' = some r := by
  intro c
  induction c with
  | skip => intro p st K r _ h; exact ⟨.normal, st, fun G a w Q hs hq => wp_skip (hq .normal a w ⟨rfl, hs⟩), h⟩
  | label l => intro p st K r _ h; exact ⟨.normal, st, fun G a w Q hs hq => wp_label (hq .normal a w ⟨rfl, hs⟩), h⟩
  | region id ops draw =>
    intro p st K r hL h
    cases draw
    · obtain ⟨x, st', hl, hK⟩ := evOps_ok hE _ _ _ _ h
      exact ⟨x, st', fun G a w Q hs hq => wp_region_list (hl G a w Q hs hq), hK⟩
    · unfold LGood at hL
      unfold evCode at h
      simp only [cond_true] at h
      split at h
      · rename_i f hf
        rw [hf] at hL
        rcases hL with hL | hL
        · exact hL _ _ _ h
        · cases hL
      · cases h
  | seq c₁ c₂ ih₁ ih₂ =>
    intro p st K r hL h
    unfold LGood at hL
    unfold evCode at h
    split at h
    · rename_i f hf
      rw [hf] at hL
      exact hL _ _ _ h
    · rename_i hf
      rw [hf] at hL
      obtain ⟨x, st₁, h₁, hK⟩ := ih₁ _ _ _ _ hL.1 h
      by_cases hx : x = .normal
      · subst hx
        obtain ⟨x₂, st₂, h₂, hK₂⟩ := ih₂ _ _ _ _ hL.2 hK
        refine ⟨x₂, st₂, fun G a w Q hs hq => wp_seq (h₁ G a w _ hs ?_), hK₂⟩
        rintro ex a' w' ⟨rfl, hs'⟩
        exact h₂ G a' w' Q hs' hq
      · refine ⟨x, st₁, fun G a w Q hs hq => wp_seq (h₁ G a w _ hs ?_), by cases x <;> first | exact absurd rfl hx | exact hK⟩
        intro ex a' w' h'
        have := hq ex a' w' h'
        cases x with
        | normal => exact absurd rfl hx
        | exit i => obtain ⟨rfl, _⟩ := h'; exact this
        | goto i => obtain ⟨rfl, _⟩ := h'; exact this
        | ret => obtain ⟨rfl, _⟩ := h'; exact this
        | pan v => obtain ⟨_, _, _, rfl, _⟩ := h'; exact this
  | cond c t e ih₁ ih₂ =>
    intro p st K r hL h
    unfold LGood at hL
    unfold evCode at h
    split at h
    · rename_i f hf
      rw [hf] at hL
      exact hL _ _ _ h
    · rename_i hf
      rw [hf] at hL
      split at h
      · rename_i b hb
        cases b <;> simp only [cond_true, cond_false] at h
        · obtain ⟨x, st', h₁, hK⟩ := ih₂ _ _ _ _ hL.2 h
          refine ⟨x, st', fun G a w Q hs hq => ?_, hK⟩
          obtain ⟨ι, ok, hs'⟩ := hs
          exact wp_cond_false (rep_v_inv (hs'.opnd hb)) (h₁ G a w Q ⟨ι, ok, hs'⟩ hq)
        · obtain ⟨x, st', h₁, hK⟩ := ih₁ _ _ _ _ hL.1 h
          refine ⟨x, st', fun G a w Q hs hq => ?_, hK⟩
          obtain ⟨ι, ok, hs'⟩ := hs
          exact wp_cond_true (rep_v_inv (hs'.opnd hb)) (h₁ G a w Q ⟨ι, ok, hs'⟩ hq)
      · cases h
  | block id c ih =>
    intro p st K r hL h
    unfold LGood at hL
    unfold evCode at h
    split at h
    · rename_i f hf
      rw [hf] at hL
      exact hL _ _ _ h
    · rename_i hf
      rw [hf] at hL
      obtain ⟨x, st', h₁, hK⟩ := ih _ _ _ _ hL h
      cases x with
      | exit i =>
        by_cases hi : i = id
        · subst hi
          have hK : (bif i.beq i then K X.normal st' else K (X.exit i) st') = some r := hK
          rw [Nat.beq_refl] at hK
          refine ⟨.normal, st', fun G a w Q hs hq => wp_block (h₁ G a w _ hs ?_), hK⟩
          rintro ex a' w' ⟨rfl, hs'⟩
          show (if i = i then _ else _)
          rw [if_pos rfl]
          exact hq _ _ _ ⟨rfl, hs'⟩
        · have hb : Nat.beq i id = false := by
            cases hb : Nat.beq i id with
            | false => rfl
            | true => exact absurd (Nat.eq_of_beq_eq_true hb) hi
          have hK : (bif i.beq id then K X.normal st' else K (X.exit i) st') = some r := hK
          rw [hb] at hK
          refine ⟨.exit i, st', fun G a w Q hs hq => wp_block (h₁ G a w _ hs ?_), hK⟩
          rintro ex a' w' ⟨rfl, hs'⟩
          show (if i = id then _ else _)
          rw [if_neg hi]
          exact hq _ _ _ ⟨rfl, hs'⟩
      | normal =>
        refine ⟨_, st', fun G a w Q hs hq => wp_block (h₁ G a w _ hs ?_), hK⟩
        rintro ex a' w' ⟨rfl, hs'⟩
        exact hq _ _ _ ⟨rfl, hs'⟩
      | goto l =>
        refine ⟨_, st', fun G a w Q hs hq => wp_block (h₁ G a w _ hs ?_), hK⟩
        rintro ex a' w' ⟨rfl, hs'⟩
        exact hq _ _ _ ⟨rfl, hs'⟩
      | ret =>
        refine ⟨_, st', fun G a w Q hs hq => wp_block (h₁ G a w _ hs ?_), hK⟩
        rintro ex a' w' ⟨rfl, hs'⟩
        exact hq _ _ _ ⟨rfl, hs'⟩
      | pan v =>
        refine ⟨_, st', fun G a w Q hs hq => wp_block (h₁ G a w _ hs ?_), hK⟩
        rintro ex a' w' ⟨ι, ok, cv, rfl, hs'⟩
        exact hq _ _ _ ⟨ι, ok, cv, rfl, hs'⟩
  | loop c _ =>
    intro p st K r hL h
    unfold LGood at hL
    unfold evCode at h
    split at h
    · rename_i f hf
      rw [hf] at hL
      exact hL _ _ _ h
    · cases h
  | scope c ih =>
    intro p st K r hL h
    unfold LGood at hL
    unfold evCode at h
    split at h
    · rename_i f hf
      rw [hf] at hL
      exact hL _ _ _ h
    · rename_i hf
      rw [hf] at hL
      obtain ⟨x, st', h₁, hK⟩ := ih _ _ _ _ hL h
      cases x with
      | goto l => cases hK
      | normal => exact ⟨_, _, fun G a w Q hs hq => wp_scope_straight (h₁ G a w _ hs fun ex a' w' hx => by obtain ⟨rfl, hx'⟩ := hx; exact hq _ _ _ ⟨rfl, hx'⟩), hK⟩
      | exit i => exact ⟨_, _, fun G a w Q hs hq => wp_scope_straight (h₁ G a w _ hs fun ex a' w' hx => by obtain ⟨rfl, hx'⟩ := hx; exact hq _ _ _ ⟨rfl, hx'⟩), hK⟩
      | ret => exact ⟨_, _, fun G a w Q hs hq => wp_scope_straight (h₁ G a w _ hs fun ex a' w' hx => by obtain ⟨rfl, hx'⟩ := hx; exact hq _ _ _ ⟨rfl, hx'⟩), hK⟩
      | pan v => exact ⟨_, _, fun G a w Q hs hq => wp_scope_straight (h₁ G a w _ hs fun ex a' w' hx => by obtain ⟨ι, ok, cv, rfl, hx'⟩ := hx; exact hq _ _ _ ⟨ι, ok, cv, rfl, hx'⟩), hK⟩
  | exit id => intro p st K r _ h; exact ⟨.exit id, st, fun G a w Q hs hq => wp_exit (hq _ a w ⟨rfl, hs⟩), h⟩
  | goto l => intro p st K r _ h; exact ⟨.goto l, st, fun G a w Q hs hq => wp_goto (hq _ a w ⟨rfl, hs⟩), h⟩
  | ret => intro p st K r _ h; exact ⟨.ret, st, fun G a w Q hs hq => wp_ret (hq _ a w ⟨rfl, hs⟩), h⟩
  | rangeFunc =>
    intro p st K r hL h
    unfold LGood at hL
    unfold evCode at h
    split at h
    · rename_i f hf
      rw [hf] at hL
      exact hL _ _ _ h
    · cases h
  | refuse => intro p st K r _ h; cases h
end Go.Ev

namespace Go.Ev
/-! ### templates: what a state is to look like, and its data -/
inductive LK where
  | I (k : IntKind) | S | A (sh : Sh) (sz : Nat)
inductive Pat where
  | int (k : IntKind) | bool | str | nilIface | nilPtr | nils | undef
  | ro (nw : Bool) (lk : LK) | own (j : Nat) | sl (j sz : Nat) | ptr (j off : Nat)
  | fn (f : FuncId) (caps : List Pat) | agg (l : List Pat) | tuple (l : List Pat) | iface (t : TypeId) (p : Pat)
  | ownN (j : Nat) | bself (j off : Nat) (t : TypeId) | mp (j : Nat) | ownV (j : Nat) | csl (j n : Nat) | nilMap
inductive OPat where
  | cells (l : List Pat) | row (lk : LK) | iter | dead | mapS | coll
def LK.T : LK → Type | .I _ => List Int | .S => List ByteArray | .A .. => List AV
mutual
def Pat.T : Pat → Type
  | .int _ => Int | .bool => Bool | .str => ByteArray | .ro _ lk => lk.T | .sl .. => Nat × Nat | .fn _ l => Ts l | .agg l => Ts l | .tuple l => Ts l | .iface _ p => p.T
  | _ => Unit
def Ts : List Pat → Type
  | [] => Unit
  | p :: r => p.T × Ts r
end
def OPat.T : OPat → Type
  | .cells l => Ts l | .row lk => lk.T | .iter => ByteArray × Nat | .dead => Unit | .mapS => List (ByteArray × ByteArray) | .coll => Unit
def TOs : List OPat → Type
  | [] => Unit
  | p :: r => p.T × TOs r
structure Tmpl where
  ts : List (Nat × Pat)
  objs : List OPat
  tags : List (Nat × Nat) := []
  df : List Pat := []
def Tmpl.T (t : Tmpl) : Type := Ts (t.ts.map (·.2)) × TOs t.objs × Ts t.df

def LK.enc : (lk : LK) → lk.T → Lst
  | .I k, l => .I k l
  | .S, l => .S l
  | .A sh sz, l => .A sh sz l
mutual
def Pat.enc (κ : Nat → Key) : (p : Pat) → p.T → AV
  | .int k, n => .v (.int k n)
  | .bool, b => .v (.bool b)
  | .str, s => .v (.string s)
  | .nilIface, _ => .v .nilIface
  | .nilPtr, _ => .v (.pointer none)
  | .nils, _ => .nils
  | .undef, _ => .v undef
  | .ro nw lk, l => .ro nw (lk.enc l)
  | .own j, _ => .own (κ j)
  | .sl j sz, p => .sl (κ j) sz p.1 p.2
  | .ptr j off, _ => .ptr (κ j) off
  | .fn f l, t => .fn (.func f) [] (encs κ l t)
  | .agg l, t => .agg (encs κ l t)
  | .tuple l, t => .tuple (encs κ l t)
  | .iface t p, x => .iface t (p.enc κ x)
  | .ownN j, _ => .ownN (κ j)
  | .bself j off t, _ => .bself (κ j) off t
  | .mp j, _ => .mp (κ j)
  | .ownV j, _ => .ownV (κ j)
  | .csl j n, _ => .csl (κ j) n
  | .nilMap, _ => .v (.map none)
def encs (κ : Nat → Key) : (l : List Pat) → Ts l → List AV
  | [], _ => []
  | p :: r, t => p.enc κ t.1 :: encs κ r t.2
end
def OPat.enc (κ : Nat → Key) : (p : OPat) → p.T → AObj
  | .cells l, t => .cells (encs κ l t)
  | .row lk, l => .row true (lk.enc l)
  | .iter, p => .iter p.1 p.2
  | .dead, _ => .dead
  | .mapS, es => .mapS es
  | .coll, _ => .coll
def encSlots (κ : Nat → Key) : (l : List (Nat × Pat)) → Ts (l.map (·.2)) → List (Nat × AV)
  | [], _ => []
  | (i, p) :: r, t => (i, p.enc κ t.1) :: encSlots κ r t.2
def encObjs (κ : Nat → Key) : (l : List OPat) → Nat → TOs l → List (Key × AObj)
  | [], _, _ => []
  | p :: r, j, t => (κ j, p.enc κ t.1) :: encObjs κ r (j + 1) t.2
/-- the state that a template and its data tell -/
def Tmpl.enc (t : Tmpl) (n : Nat) (x : t.T) : St := ⟨n, t.objs.length, encSlots (fun j => j) t.ts x.1, encObjs (fun j => j) t.objs 0 x.2.1, t.tags, encs (fun j => j) t.df x.2.2⟩

/-! ### reading -/
abbrev KB := List (Nat × Key)
def bindK (j : Nat) (k : Key) (kb : KB) : Option KB :=
  match look kb j with
  | some k' => bif Nat.beq k k' then some kb else none
  | none => some ((j, k) :: kb)
mutual
/-- is the first weaker? -/
def shLe : Sh → Sh → Bool
  | .int k, .int k' => k == k'
  | .bool, .bool => true
  | .str, .str => true
  | .roI nw k, .roI nw' k' => (!nw || nw') && k == k'
  | .roS nw, .roS nw' => !nw || nw'
  | .roA nw sh sz, .roA nw' sh' sz' => (!nw || nw') && Nat.beq sz sz' && shLe sh sh'
  | .agg l, .agg l' => shLes l l'
  | .any, .any => true
  | _, _ => false
def shLes : List Sh → List Sh → Bool
  | [], [] => true
  | a :: r, b :: s => shLe a b && shLes r s
  | _, _ => false
end
def LK.dec : (lk : LK) → Lst → Option lk.T
  | .I k, .I k' l => bif k == k' then some l else none
  | .S, .S l => some l
  | .A sh sz, .A sh' sz' l => bif Nat.beq sz sz' && shLe sh sh' then some l else none
  | _, _ => none
def LK.empty : (lk : LK) → lk.T
  | .I _ => []
  | .S => []
  | .A .. => []
def decInt (k : IntKind) (kb : KB) : AV → Option (Int × KB)
  | .v (.int k' n) => bif k == k' then some (n, kb) else none
  | _ => none
def decBool (kb : KB) : AV → Option (Bool × KB)
  | .v (.bool b) => some (b, kb)
  | _ => none
def decStr (kb : KB) : AV → Option (ByteArray × KB)
  | .v (.string b) => some (b, kb)
  | _ => none
def decNilIface (kb : KB) : AV → Option (Unit × KB)
  | .v .nilIface => some ((), kb)
  | _ => none
def decNilPtr (kb : KB) : AV → Option (Unit × KB)
  | .v (.pointer none) => some ((), kb)
  | _ => none
def decNilMap (kb : KB) : AV → Option (Unit × KB)
  | .v (.map none) => some ((), kb)
  | _ => none
def decNils (kb : KB) : AV → Option (Unit × KB)
  | .nils => some ((), kb)
  | _ => none
def decRo (nw : Bool) (lk : LK) (kb : KB) : AV → Option (lk.T × KB)
  | .ro nw' l => bif !nw || nw' then (match lk.dec l with | some t => some (t, kb) | none => none) else none
  | .nils => some (lk.empty, kb)
  | _ => none
def decOwn (j : Nat) (kb : KB) : AV → Option (Unit × KB)
  | .own k => match bindK j k kb with | some kb => some ((), kb) | none => none
  | .ownN k => match bindK j k kb with | some kb => some ((), kb) | none => none
  | .ownV k => match bindK j k kb with | some kb => some ((), kb) | none => none
  | _ => none
def decOwnV (j : Nat) (kb : KB) : AV → Option (Unit × KB)
  | .ownV k => match bindK j k kb with | some kb => some ((), kb) | none => none
  | .ownN k => match bindK j k kb with | some kb => some ((), kb) | none => none
  | _ => none
def decOwnN (j : Nat) (kb : KB) : AV → Option (Unit × KB)
  | .ownN k => match bindK j k kb with | some kb => some ((), kb) | none => none
  | _ => none
def decBself (j off : Nat) (t : TypeId) (kb : KB) : AV → Option (Unit × KB)
  | .bself k off' t' => bif Nat.beq off off' && Nat.beq t t' then (match bindK j k kb with | some kb => some ((), kb) | none => none) else none
  | _ => none
def decMp (j : Nat) (kb : KB) : AV → Option (Unit × KB)
  | .mp k => match bindK j k kb with | some kb => some ((), kb) | none => none
  | _ => none
def decCsl (j n : Nat) (kb : KB) : AV → Option (Unit × KB)
  | .csl k n' => bif Nat.beq n n' then (match bindK j k kb with | some kb => some ((), kb) | none => none) else none
  | _ => none
def decSl (j sz : Nat) (kb : KB) : AV → Option ((Nat × Nat) × KB)
  | .sl k sz' off len => bif Nat.beq sz sz' then (match bindK j k kb with | some kb => some ((off, len), kb) | none => none) else none
  | _ => none
def decPtr (j off : Nat) (kb : KB) : AV → Option (Unit × KB)
  | .ptr k off' => bif Nat.beq off off' then (match bindK j k kb with | some kb => some ((), kb) | none => none) else none
  | _ => none
def fnCaps (f : FuncId) : AV → Option (List AV)
  | .fn (.func f') [] caps => bif Nat.beq f f' then some caps else none
  | _ => none
def aggCells : AV → Option (List AV)
  | .agg cs => some cs
  | _ => none
def tupleCells : AV → Option (List AV)
  | .tuple cs => some cs
  | _ => none
def ifaceOf (t : TypeId) : AV → Option AV
  | .iface t' x => bif Nat.beq t t' then some x else none
  | _ => none
mutual
def Pat.dec : (p : Pat) → AV → KB → Option (p.T × KB)
  | .int k, x, kb => decInt k kb x
  | .bool, x, kb => decBool kb x
  | .str, x, kb => decStr kb x
  | .nilIface, x, kb => decNilIface kb x
  | .nilPtr, x, kb => decNilPtr kb x
  | .nils, x, kb => decNils kb x
  | .undef, _, _ => none
  | .ro nw lk, x, kb => decRo nw lk kb x
  | .own j, x, kb => decOwn j kb x
  | .sl j sz, x, kb => decSl j sz kb x
  | .ptr j off, x, kb => decPtr j off kb x
  | .fn f l, x, kb => match fnCaps f x with
    | some cs => decs l cs kb
    | none => none
  | .agg l, x, kb => match aggCells x with
    | some cs => decs l cs kb
    | none => none
  | .tuple l, x, kb => match tupleCells x with
    | some cs => decs l cs kb
    | none => none
  | .iface t p, x, kb => match ifaceOf t x with
    | some y => p.dec y kb
    | none => none
  | .ownN j, x, kb => decOwnN j kb x
  | .bself j off t, x, kb => decBself j off t kb x
  | .mp j, x, kb => decMp j kb x
  | .ownV j, x, kb => decOwnV j kb x
  | .csl j n, x, kb => decCsl j n kb x
  | .nilMap, x, kb => decNilMap kb x
def decs : (l : List Pat) → List AV → KB → Option (Ts l × KB)
  | [], xs, kb => match xs with
    | [] => some ((), kb)
    | _ => none
  | p :: r, xs, kb => match xs with
    | [] => none
    | x :: xs => match p.dec x kb with
      | some (t, kb) => match decs r xs kb with
        | some (ts, kb) => some ((t, ts), kb)
        | none => none
      | none => none
end
def cellsOf : AObj → Option (List AV)
  | .cells cs => some cs
  | _ => none
def rowOf : AObj → Option Lst
  | .row true l => some l
  | _ => none
def iterOf : AObj → Option (ByteArray × Nat)
  | .iter s pos => some (s, pos)
  | _ => none
def mapOf : AObj → Option (List (ByteArray × ByteArray))
  | .mapS es => some es
  | _ => none
def isColl : AObj → Option Unit
  | .coll => some ()
  | _ => none
def OPat.dec : (p : OPat) → AObj → KB → Option (p.T × KB)
  | .cells l, o, kb => match cellsOf o with
    | some cs => decs l cs kb
    | none => none
  | .row lk, o, kb => match rowOf o with
    | some l => match lk.dec l with | some t => some (t, kb) | none => none
    | none => none
  | .iter, o, kb => match iterOf o with
    | some p => some (p, kb)
    | none => none
  | .dead, _, kb => some ((), kb)
  | .mapS, o, kb => match mapOf o with
    | some es => some (es, kb)
    | none => none
  | .coll, o, kb => match isColl o with
    | some _ => some ((), kb)
    | none => none
def decSlots (st : St) : (l : List (Nat × Pat)) → KB → Option (Ts (l.map (·.2)) × KB)
  | [], kb => some ((), kb)
  | (i, p) :: r, kb => match look st.ts i with
    | some x => match p.dec x kb with
      | some (t, kb) => match decSlots st r kb with
        | some (ts, kb) => some ((t, ts), kb)
        | none => none
      | none => none
    | none => none
def decObjs (st : St) : (l : List OPat) → Nat → KB → Option (TOs l × KB)
  | [], _, kb => some ((), kb)
  | p :: r, j, kb => match look kb j with
    | some k => match look st.ar k with
      | some o => match p.dec o kb with
        | some (t, kb) => match decObjs st r (j + 1) kb with
          | some (ts, kb) => some ((t, ts), kb)
          | none => none
        | none => none
      | none => none
    | none => none
def distinct : KB → Bool
  | [] => true
  | (_, k) :: r => (r.all fun p => !Nat.beq p.2 k) && distinct r
/-- do the bound objects bear the tags? -/
def tagged (st : St) (kb : KB) : List (Nat × Nat) → Bool
  | [] => true
  | (j, g) :: r => (match look kb j with
    | some k => match look st.tg k with
      | some g' => Nat.beq g g'
      | none => false
    | none => false) && tagged st kb r
def findTag : List (Nat × Nat) → Nat → Option Key
  | [], _ => none
  | (k, g) :: r, g' => bif Nat.beq g g' then some k else findTag r g'
def tagKB (st : St) : List (Nat × Nat) → KB
  | [] => []
  | (j, g) :: r => match findTag st.tg g with
    | some k => (j, k) :: tagKB st r
    | none => tagKB st r
def Tmpl.dec (t : Tmpl) (st : St) : Option (t.T × KB) :=
  match decSlots st t.ts (tagKB st t.tags) with
  | some (x, kb) => match decs t.df st.df kb with
    | some (z, kb) => match decObjs st t.objs 0 kb with
      | some (y, kb) => bif distinct kb && (kb.all fun p => Nat.blt p.1 t.objs.length) && tagged st kb t.tags then some ((x, y, z), kb) else none
      | none => none
    | none => none
  | none => none
end Go.Ev

namespace Go.Ev
def Ext (kb kb' : KB) : Prop := ∀ j k, look kb j = some k → look kb' j = some k
theorem Ext.refl (kb : KB) : Ext kb kb := fun _ _ h => h
theorem Ext.trans {a b c : KB} (h : Ext a b) (h' : Ext b c) : Ext a c := fun j k e => h' j k (h j k e)
theorem beq_eq {a b : Nat} (h : Nat.beq a b = true) : a = b := Nat.eq_of_beq_eq_true h
theorem cond_none {α : Type} {b : Bool} {x : Option α} {y : α} (h : (bif b then x else none) = some y) : b = true ∧ x = some y := by
  cases b
  · cases h
  · exact ⟨rfl, h⟩
theorem bindK_ok {j k : Nat} {kb kb' : KB} (h : bindK j k kb = some kb') : look kb' j = some k ∧ Ext kb kb' := by
  unfold bindK at h
  split at h
  · rename_i k' hk
    obtain ⟨e, h⟩ := cond_none h
    injection h with h; subst h
    have := beq_eq e; subst this
    exact ⟨hk, Ext.refl _⟩
  · rename_i hn
    injection h with h; subst h
    refine ⟨by rw [look_cons]; simp, fun i k' hi => ?_⟩
    rw [look_cons]
    split
    · rename_i e; subst e; rw [hn] at hi; cases hi
    · exact hi
/-- the places of the bound keys -/
def under (kb : KB) (ι : Loci) : Loci := fun j => (look kb j).bind ι
theorem under_of {kb : KB} {ι : Loci} {j k : Nat} (h : look kb j = some k) : under kb ι j = ι k := by simp [under, h]

theorem LK.dec_enc {lk : LK} {l : Lst} {t : lk.T} (h : lk.dec l = some t) : (lk.enc t).length = l.length ∧ (lk.enc t).sz = l.sz ∧
    ((∃ k x, l = .I k x ∧ lk.enc t = .I k x) ∨ (∃ x, l = .S x ∧ lk.enc t = .S x) ∨ (∃ sh sh' sz x, shLe sh sh' = true ∧ l = .A sh' sz x ∧ lk.enc t = .A sh sz x)) := by
  cases lk <;> cases l <;> simp only [LK.dec] at h <;> try (cases h; done)
  · obtain ⟨e, h2⟩ := cond_none h
    clear h
    have e := eq_of_beq e; subst e
    injection h2 with h; subst h
    exact ⟨rfl, rfl, .inl ⟨_, _, rfl, rfl⟩⟩
  · injection h with h; subst h
    exact ⟨rfl, rfl, .inr (.inl ⟨_, rfl, rfl⟩)⟩
  · obtain ⟨e, h2⟩ := cond_none h
    clear h
    rw [Bool.and_eq_true] at e
    have e1 := beq_eq e.1; subst e1
    injection h2 with h; subst h
    exact ⟨rfl, rfl, .inr (.inr ⟨_, _, _, _, e.2, rfl, rfl⟩)⟩

theorem LK.rowTy_enc {lk : LK} {l : Lst} {t : lk.T} (h : lk.dec l = some t) {ty : TypeId} (hr : rowTy l ty) : rowTy (lk.enc t) ty := by
  rcases (LK.dec_enc h).2.2 with ⟨k, x, e1, e2⟩ | ⟨x, e1, e2⟩ | ⟨sh, sh', sz, x, _, e1, e2⟩
  · rw [e2]; rw [e1] at hr; exact hr
  · rw [e2]; trivial
  · rw [e2]; trivial
theorem imp_of {a b : Bool} (h : (!a || b) = true) : a = true → b = true := by cases a <;> cases b <;> simp_all

section
variable {w : World} {ok : Nat → Prop} {B : Nat}
theorem Rep.weaken {ι : Loci} {nw nw' : Bool} {l l' : Lst} {v : Value} (h : Rep w ok B ι (.ro nw' l') v) (h1 : l.length = l'.length) (h2 : l.sz = l'.sz)
    (hn : nw = true → nw' = true) (hc : ∀ i, (l'.elem i).cells.length = l'.sz → (l.elem i).cells.length = l.sz)
    (he : ∀ i j v, Rep w ok B (fun _ => none) ((l'.elem i).cell j) v → Rep w ok B (fun _ => none) ((l.elem i).cell j) v) : Rep w ok B ι (.ro nw l) v := by
  cases h with
  | ro val g1 g2 g3 g4 g5 g6 g7 g8 g9 =>
    exact .ro val (g1.trans h1.symm) g2 g3 g4 (fun h => g5 (hn h)) g6 (fun i j hi hj => by rw [h2]; exact g7 i j hi (by rw [← h2]; exact hj))
      (fun i j hi hj => he i j _ (g8 i j hi (by rw [← h2]; exact hj))) (fun i hi => hc i (g9 i hi))
  | ro0 g1 g2 => exact .ro0 (g1.trans h1.symm) g2
theorem RowAt.weaken {b o : Nat} {l l' : Lst} (h : RowAt w ok B b o l') (h1 : l.length = l'.length) (h2 : l.sz = l'.sz)
    (hc : ∀ i, (l'.elem i).cells.length = l'.sz → (l.elem i).cells.length = l.sz)
    (he : ∀ i j v, Rep w ok B (fun _ => none) ((l'.elem i).cell j) v → Rep w ok B (fun _ => none) ((l.elem i).cell j) v) : RowAt w ok B b o l := by
  obtain ⟨val, g1, g2, g3⟩ := h
  exact ⟨val, fun i j hi hj => by rw [h2]; exact g1 i j (by rw [← h1]; exact hi) (by rw [← h2]; exact hj),
    fun i j hi hj => he i j _ (g2 i j (by rw [← h1]; exact hi) (by rw [← h2]; exact hj)), fun i hi => hc i (g3 i (by rw [← h1]; exact hi))⟩

theorem shLe_views_length : ∀ (l l' : List Sh) (e : AV) (i : Nat), shLes l l' = true → (views l e i).length = (views l' e i).length
  | [], [], _, _, _ => rfl
  | a :: r, b :: s, e, i, h => by
    simp only [shLes, Bool.and_eq_true] at h
    simp [views, shLe_views_length r s e (i + 1) h.2]
  | [], _ :: _, _, _, h => by simp [shLes] at h
  | _ :: _, [], _, _, h => by simp [shLes] at h
mutual
theorem view_le : ∀ (sh sh' : Sh), shLe sh sh' = true → (∀ ι e v, Rep w ok B ι (view sh' e) v → Rep w ok B ι (view sh e) v) ∧
    (∀ ι e j v, Rep w ok B ι ((view sh' e).cell j) v → Rep w ok B ι ((view sh e).cell j) v) ∧ (∀ e, (view sh e).cells.length = (view sh' e).cells.length)
  | .int k, sh', h => by
    cases sh' <;> simp only [shLe] at h <;> try (cases h; done)
    have := eq_of_beq h; subst this
    exact ⟨fun _ _ _ h => h, fun _ _ _ _ h => h, fun _ => rfl⟩
  | .bool, sh', h => by
    cases sh' <;> simp only [shLe] at h <;> first | (cases h; done) | exact ⟨fun _ _ _ h => h, fun _ _ _ _ h => h, fun _ => rfl⟩
  | .str, sh', h => by
    cases sh' <;> simp only [shLe] at h <;> first | (cases h; done) | exact ⟨fun _ _ _ h => h, fun _ _ _ _ h => h, fun _ => rfl⟩
  | .any, sh', h => by
    cases sh' <;> simp only [shLe] at h <;> first | (cases h; done) | exact ⟨fun _ _ _ h => h, fun _ _ _ _ h => h, fun _ => rfl⟩
  | .roI nw k, sh', h => by
    cases sh' <;> simp only [shLe] at h <;> try (cases h; done)
    rename_i nw' k'
    simp only [Bool.and_eq_true] at h
    have := eq_of_beq h.2; subst this
    have key : ∀ ι (e : AV) v, Rep w ok B ι (view (.roI nw' k) e) v → Rep w ok B ι (view (.roI nw k) e) v := fun ι e v hr =>
      Rep.weaken hr rfl rfl (imp_of h.1) (fun _ h => h) (fun _ _ _ h => h)
    refine ⟨key, fun ι e j v hr => ?_, fun _ => rfl⟩
    cases j with
    | zero => exact key ι e v hr
    | succ j => exact hr
  | .roS nw, sh', h => by
    cases sh' <;> simp only [shLe] at h <;> try (cases h; done)
    rename_i nw'
    have key : ∀ ι (e : AV) v, Rep w ok B ι (view (.roS nw') e) v → Rep w ok B ι (view (.roS nw) e) v := fun ι e v hr =>
      Rep.weaken hr rfl rfl (imp_of h) (fun _ h => h) (fun _ _ _ h => h)
    refine ⟨key, fun ι e j v hr => ?_, fun _ => rfl⟩
    cases j with
    | zero => exact key ι e v hr
    | succ j => exact hr
  | .roA nw sh sz, sh', h => by
    cases sh' <;> simp only [shLe] at h <;> try (cases h; done)
    rename_i nw' sh₂ sz'
    simp only [Bool.and_eq_true] at h
    have := beq_eq h.1.2; subst this
    have ih := view_le sh sh₂ h.2
    have key : ∀ ι (e : AV) v, Rep w ok B ι (view (.roA nw' sh₂ sz) e) v → Rep w ok B ι (view (.roA nw sh sz) e) v := fun ι e v hr =>
      Rep.weaken hr rfl rfl (imp_of h.1.1) (fun i hc => (ih.2.2 _).trans hc) (fun i j v hv => ih.2.1 _ _ j v hv)
    refine ⟨key, fun ι e j v hr => ?_, fun _ => rfl⟩
    cases j with
    | zero => exact key ι e v hr
    | succ j => exact hr
  | .agg l, sh', h => by
    cases sh' <;> simp only [shLe] at h <;> try (cases h; done)
    rename_i l'
    have ih := views_le l l' h
    refine ⟨fun ι e v hr => ?_, fun ι e j v hr => ih ι e 0 j v hr, fun e => shLe_views_length l l' e 0 h⟩
    simp only [view] at hr ⊢
    cases hr with
    | agg g1 g2 =>
      have hl := shLe_views_length l l' e 0 h
      exact .agg (g1.trans hl.symm) (fun i hi => ih ι e 0 i _ (g2 i (by rw [← hl]; exact hi)))
theorem views_le : ∀ (l l' : List Sh), shLes l l' = true → ∀ ι e i j v, Rep w ok B ι ((views l' e i).getD j default) v → Rep w ok B ι ((views l e i).getD j default) v
  | [], [], _ => fun _ _ _ _ _ h => h
  | a :: r, b :: s, h => by
    simp only [shLes, Bool.and_eq_true] at h
    intro ι e i j v hr
    cases j with
    | zero => simp only [views, List.getD_cons_zero] at hr ⊢; exact (view_le a b h.1).1 ι _ v hr
    | succ j => simp only [views, List.getD_cons_succ] at hr ⊢; exact views_le r s h.2 ι e (i + 1) j v hr
  | [], _ :: _, h => by simp [shLes] at h
  | _ :: _, [], h => by simp [shLes] at h
end
theorem LK.dec_elem {lk : LK} {l : Lst} {t : lk.T} (h : lk.dec l = some t) : (∀ i, (l.elem i).cells.length = l.sz → ((lk.enc t).elem i).cells.length = (lk.enc t).sz) ∧
    (∀ i j v, Rep w ok B (fun _ => none) ((l.elem i).cell j) v → Rep w ok B (fun _ => none) (((lk.enc t).elem i).cell j) v) := by
  obtain ⟨_, _, h | h | h⟩ := LK.dec_enc h
  · obtain ⟨k, x, e1, e2⟩ := h; rw [e1, e2]; exact ⟨fun _ h => h, fun _ _ _ h => h⟩
  · obtain ⟨x, e1, e2⟩ := h; rw [e1, e2]; exact ⟨fun _ h => h, fun _ _ _ h => h⟩
  · obtain ⟨sh, sh', sz, x, hle, e1, e2⟩ := h; rw [e1, e2]
    have := view_le (w := w) (ok := ok) (B := B) sh sh' hle
    exact ⟨fun i h => (this.2.2 _).trans h, fun i j v h => this.2.1 _ _ j v h⟩

def DecOK (w : World) (ok : Nat → Prop) (B : Nat) (p : Pat) : Prop := ∀ (x : AV) (kb : KB) (t : p.T) (kb' : KB), p.dec x kb = some (t, kb') → Ext kb kb' ∧
    ∀ kbf ι v, Ext kb' kbf → Rep w ok B ι x v → Rep w ok B (under kbf ι) (p.enc (fun j => j) t) v
def DecsOK (w : World) (ok : Nat → Prop) (B : Nat) (l : List Pat) : Prop := ∀ (xs : List AV) (kb : KB) (t : Ts l) (kb' : KB), decs l xs kb = some (t, kb') → Ext kb kb' ∧ (l.length = xs.length) ∧
    ∀ kbf ι (vs : Array Value), Ext kb' kbf → vs.size = xs.length → (∀ i, i < xs.length → Rep w ok B ι (xs.getD i default) (vs.getD i undef)) →
      vs.size = (encs (fun j => j) l t).length ∧ ∀ i, i < (encs (fun j => j) l t).length → Rep w ok B (under kbf ι) ((encs (fun j => j) l t).getD i default) (vs.getD i undef)
theorem dec_int (k : IntKind) : DecOK w ok B (.int k) := by
  intro x kb t kb' h
  simp only [Pat.dec, decInt] at h
  split at h
  · obtain ⟨e, h2⟩ := cond_none h
    have := eq_of_beq e; subst this
    injection h2 with h; injection h with h1 h2; subst h1; subst h2
    exact ⟨Ext.refl _, fun kbf ι v _ hr => by rw [rep_v_inv hr]; exact .v _⟩
  · cases h
theorem dec_bool : DecOK w ok B .bool := by
  intro x kb t kb' h
  simp only [Pat.dec, decBool] at h
  split at h
  · injection h with h; injection h with h1 h2; subst h1; subst h2
    exact ⟨Ext.refl _, fun kbf ι v _ hr => by rw [rep_v_inv hr]; exact .v _⟩
  · cases h
theorem dec_str : DecOK w ok B .str := by
  intro x kb t kb' h
  simp only [Pat.dec, decStr] at h
  split at h
  · injection h with h; injection h with h1 h2; subst h1; subst h2
    exact ⟨Ext.refl _, fun kbf ι v _ hr => by rw [rep_v_inv hr]; exact .v _⟩
  · cases h
theorem dec_nilIface : DecOK w ok B .nilIface := by
  intro x kb t kb' h
  simp only [Pat.dec, decNilIface] at h
  split at h
  · injection h with h; injection h with h1 h2; subst h1; subst h2
    exact ⟨Ext.refl _, fun kbf ι v _ hr => by rw [rep_v_inv hr]; exact .v _⟩
  · cases h
theorem dec_nilPtr : DecOK w ok B .nilPtr := by
  intro x kb t kb' h
  simp only [Pat.dec, decNilPtr] at h
  split at h
  · injection h with h; injection h with h1 h2; subst h1; subst h2
    exact ⟨Ext.refl _, fun kbf ι v _ hr => by rw [rep_v_inv hr]; exact .v _⟩
  · cases h
theorem dec_nilMap : DecOK w ok B .nilMap := by
  intro x kb t kb' h
  simp only [Pat.dec, decNilMap] at h
  split at h
  · injection h with h; injection h with h1 h2; subst h1; subst h2
    exact ⟨Ext.refl _, fun kbf ι v _ hr => by rw [rep_v_inv hr]; exact .v _⟩
  · cases h
theorem dec_nils : DecOK w ok B .nils := by
  intro x kb t kb' h
  simp only [Pat.dec, decNils] at h
  split at h
  · injection h with h; injection h with h1 h2; subst h1; subst h2
    exact ⟨Ext.refl _, fun kbf ι v _ hr => by cases hr; exact .nils⟩
  · cases h
theorem dec_ro (nw : Bool) (lk : LK) : DecOK w ok B (.ro nw lk) := by
  intro x kb t kb' h
  simp only [Pat.dec, decRo] at h
  split at h
  · obtain ⟨e, h2⟩ := cond_none h
    split at h2
    · rename_i t' ht
      injection h2 with h; injection h with h1 h2; subst h1; subst h2
      refine ⟨Ext.refl _, fun kbf ι v _ hr => ?_⟩
      obtain ⟨g1, g2, _⟩ := LK.dec_enc ht
      have g3 := LK.dec_elem (w := w) (ok := ok) (B := B) ht
      have := Rep.weaken hr g1 g2 (imp_of e) g3.1 g3.2
      cases this with
      | ro val a1 a2 a3 a4 a5 a6 a7 a8 a9 => exact .ro val a1 a2 a3 a4 a5 a6 a7 a8 a9
      | ro0 a1 a2 => exact .ro0 a1 a2
    · cases h2
  · injection h with h; injection h with h1 h2; subst h1; subst h2
    refine ⟨Ext.refl _, fun kbf ι v _ hr => ?_⟩
    cases hr
    refine .ro0 ?_ rfl
    cases lk <;> rfl
  · cases h
theorem dec_own (j : Nat) : DecOK w ok B (.own j) := by
  intro x kb t kb' h
  simp only [Pat.dec, decOwn] at h
  split at h
  · split at h
    · rename_i kb₁ hb
      injection h with h; injection h with h1 h2; subst h2
      obtain ⟨g1, g2⟩ := bindK_ok hb
      refine ⟨g2, fun kbf ι v he hr => ?_⟩
      have e := under_of (ι := ι) (he _ _ g1)
      cases hr with
      | own a1 a2 => exact .own (e.trans a1) a2
      | own0 a1 a2 a3 => exact .own0 (e.trans a1) a2 a3
    · cases h
  · split at h
    · rename_i kb₁ hb
      injection h with h; injection h with h1 h2; subst h2
      obtain ⟨g1, g2⟩ := bindK_ok hb
      refine ⟨g2, fun kbf ι v he hr => ?_⟩
      have e := under_of (ι := ι) (he _ _ g1)
      cases hr with
      | ownN a1 a2 a3 => exact .own (e.trans a1) a2
      | ownN0 a1 a2 a3 => exact .own0 (e.trans a1) a2 a3
    · cases h
  · split at h
    · rename_i kb₁ hb
      injection h with h; injection h with h1 h2; subst h2
      obtain ⟨g1, g2⟩ := bindK_ok hb
      refine ⟨g2, fun kbf ι v he hr => ?_⟩
      have e := under_of (ι := ι) (he _ _ g1)
      cases hr with
      | ownV a1 a2 => exact .own (e.trans a1) a2
      | ownV0 a1 a2 a3 => exact .own0 (e.trans a1) a2 a3
    · cases h
  · cases h
theorem dec_ownV (j : Nat) : DecOK w ok B (.ownV j) := by
  intro x kb t kb' h
  simp only [Pat.dec, decOwnV] at h
  split at h
  · split at h
    · rename_i kb₁ hb
      injection h with h; injection h with h1 h2; subst h2
      obtain ⟨g1, g2⟩ := bindK_ok hb
      refine ⟨g2, fun kbf ι v he hr => ?_⟩
      have e := under_of (ι := ι) (he _ _ g1)
      cases hr with
      | ownV a1 a2 => exact .ownV (e.trans a1) a2
      | ownV0 a1 a2 a3 => exact .ownV0 (e.trans a1) a2 a3
    · cases h
  · split at h
    · rename_i kb₁ hb
      injection h with h; injection h with h1 h2; subst h2
      obtain ⟨g1, g2⟩ := bindK_ok hb
      refine ⟨g2, fun kbf ι v he hr => ?_⟩
      have e := under_of (ι := ι) (he _ _ g1)
      cases hr with
      | ownN a1 a2 a3 => exact .ownV (e.trans a1) a2
      | ownN0 a1 a2 a3 => exact .ownV0 (e.trans a1) a2 a3
    · cases h
  · cases h
theorem dec_ownN (j : Nat) : DecOK w ok B (.ownN j) := by
  intro x kb t kb' h
  simp only [Pat.dec, decOwnN] at h
  split at h
  · split at h
    · rename_i kb₁ hb
      injection h with h; injection h with h1 h2; subst h2
      obtain ⟨g1, g2⟩ := bindK_ok hb
      refine ⟨g2, fun kbf ι v he hr => ?_⟩
      have e := under_of (ι := ι) (he _ _ g1)
      cases hr with
      | ownN a1 a2 a3 => exact .ownN (e.trans a1) a2 a3
      | ownN0 a1 a2 a3 => exact .ownN0 (e.trans a1) a2 a3
    · cases h
  · cases h
theorem dec_mp (j : Nat) : DecOK w ok B (.mp j) := by
  intro x kb t kb' h
  simp only [Pat.dec, decMp] at h
  split at h
  · split at h
    · rename_i kb₁ hb
      injection h with h; injection h with h1 h2; subst h2
      obtain ⟨g1, g2⟩ := bindK_ok hb
      refine ⟨g2, fun kbf ι v he hr => ?_⟩
      have e := under_of (ι := ι) (he _ _ g1)
      cases hr with
      | mp a1 a2 => exact .mp (e.trans a1) a2
    · cases h
  · cases h
theorem dec_csl (j n : Nat) : DecOK w ok B (.csl j n) := by
  intro x kb t kb' h
  simp only [Pat.dec, decCsl] at h
  split at h
  · obtain ⟨e, h2⟩ := cond_none h
    have e1 := beq_eq e; subst e1
    split at h2
    · rename_i kb₁ hb
      injection h2 with h2; injection h2 with h1 h2; subst h2
      obtain ⟨g1, g2⟩ := bindK_ok hb
      refine ⟨g2, fun kbf ι v he hr => ?_⟩
      have e := under_of (ι := ι) (he _ _ g1)
      cases hr with
      | csl a1 => exact .csl (e.trans a1)
    · cases h2
  · cases h
theorem dec_bself (j off : Nat) (ty : TypeId) : DecOK w ok B (.bself j off ty) := by
  intro x kb t kb' h
  simp only [Pat.dec, decBself] at h
  split at h
  · obtain ⟨e, h2⟩ := cond_none h
    rw [Bool.and_eq_true] at e
    have e1 := beq_eq e.1; subst e1
    have e1 := beq_eq e.2; subst e1
    split at h2
    · rename_i kb₁ hb
      injection h2 with h2; injection h2 with h1 h2; subst h2
      obtain ⟨g1, g2⟩ := bindK_ok hb
      refine ⟨g2, fun kbf ι v he hr => ?_⟩
      have e := under_of (ι := ι) (he _ _ g1)
      cases hr with
      | bself a1 a2 a3 a4 => exact .bself (e.trans a1) a2 a3 a4
    · cases h2
  · cases h
theorem dec_sl (j sz : Nat) : DecOK w ok B (.sl j sz) := by
  intro x kb t kb' h
  simp only [Pat.dec, decSl] at h
  split at h
  · obtain ⟨e, h2⟩ := cond_none h
    have := beq_eq e; subst this
    split at h2
    · rename_i kb₁ hb
      injection h2 with h; injection h with h1 h2; subst h1; subst h2
      obtain ⟨g1, g2⟩ := bindK_ok hb
      refine ⟨g2, fun kbf ι v he hr => ?_⟩
      have e := under_of (ι := ι) (he _ _ g1)
      cases hr with
      | sl a1 a2 a3 a4 a5 => exact .sl (e.trans a1) a2 a3 a4 a5
      | sl0 a1 a2 a3 => exact .sl0 (e.trans a1) a2 a3
    · cases h2
  · cases h
theorem dec_ptr (j off : Nat) : DecOK w ok B (.ptr j off) := by
  intro x kb t kb' h
  simp only [Pat.dec, decPtr] at h
  split at h
  · obtain ⟨e, h2⟩ := cond_none h
    have := beq_eq e; subst this
    split at h2
    · rename_i kb₁ hb
      injection h2 with h; injection h with h1 h2; subst h2
      obtain ⟨g1, g2⟩ := bindK_ok hb
      refine ⟨g2, fun kbf ι v he hr => ?_⟩
      have e := under_of (ι := ι) (he _ _ g1)
      cases hr with
      | ptr a1 => exact .ptr (e.trans a1)
    · cases h2
  · cases h
theorem dec_fn (f : FuncId) (l : List Pat) (hl : DecsOK w ok B l) : DecOK w ok B (.fn f l) := by
  intro x kb t kb' h
  simp only [Pat.dec] at h
  split at h
  · rename_i cs hc
    have ih := hl cs kb t kb' h
    refine ⟨ih.1, fun kbf ι v he hr => ?_⟩
    unfold fnCaps at hc
    split at hc
    · obtain ⟨e, hc2⟩ := cond_none hc
      have := beq_eq e; subst this
      injection hc2 with hc2; subst hc2
      cases hr with
      | fn a1 a2 a3 a4 =>
        have := ih.2.2 kbf ι _ he a2 a4
        exact .fn a1 this.1 (fun i hi => by simp at hi) this.2
    · cases hc
  · cases h
theorem dec_agg (l : List Pat) (hl : DecsOK w ok B l) : DecOK w ok B (.agg l) := by
  intro x kb t kb' h
  simp only [Pat.dec] at h
  split at h
  · rename_i cs hc
    have ih := hl cs kb t kb' h
    refine ⟨ih.1, fun kbf ι v he hr => ?_⟩
    unfold aggCells at hc
    split at hc
    · injection hc with hc; subst hc
      cases hr with
      | agg a1 a2 => have := ih.2.2 kbf ι _ he a1 a2; exact .agg this.1 this.2
    · cases hc
  · cases h
theorem dec_tuple (l : List Pat) (hl : DecsOK w ok B l) : DecOK w ok B (.tuple l) := by
  intro x kb t kb' h
  simp only [Pat.dec] at h
  split at h
  · rename_i cs hc
    have ih := hl cs kb t kb' h
    refine ⟨ih.1, fun kbf ι v he hr => ?_⟩
    unfold tupleCells at hc
    split at hc
    · injection hc with hc; subst hc
      cases hr with
      | tuple a1 a2 => have := ih.2.2 kbf ι _ he a1 a2; exact .tuple this.1 this.2
    · cases hc
  · cases h
theorem dec_iface (t : TypeId) (p : Pat) (hp : DecOK w ok B p) : DecOK w ok B (.iface t p) := by
  intro x kb tt kb' h
  simp only [Pat.dec] at h
  split at h
  · rename_i y hc
    have ih := hp y kb tt kb' h
    refine ⟨ih.1, fun kbf ι v he hr => ?_⟩
    unfold ifaceOf at hc
    split at hc
    · obtain ⟨e, hc2⟩ := cond_none hc
      have := beq_eq e; subst this
      injection hc2 with hc2; subst hc2
      cases hr with
      | iface a1 => exact .iface (ih.2 kbf ι _ he a1)
    · cases hc
  · cases h
theorem decs_nil : DecsOK w ok B [] := by
  intro xs kb t kb' h
  simp only [decs] at h
  split at h
  · injection h with h; injection h with h1 h2; subst h2
    exact ⟨Ext.refl _, rfl, fun kbf ι vs _ hs _ => ⟨hs, fun i hi => by simp [encs] at hi⟩⟩
  · cases h
theorem tail_getD (vs : Array Value) (i : Nat) : (vs.extract 1 vs.size).getD i undef = vs.getD (i + 1) undef := by
  simp only [Array.getD_eq_getD_getElem?, Array.getElem?_extract]
  by_cases hi' : i < vs.size - 1
  · have : i < min vs.size vs.size - 1 := by simpa using hi'
    rw [if_pos this, Nat.add_comm 1 i]
  · have hn : ¬ i < min vs.size vs.size - 1 := by simpa using hi'
    rw [if_neg hn, Array.getElem?_eq_none (by omega)]
theorem decs_cons (p : Pat) (r : List Pat) (hp : DecOK w ok B p) (hr : DecsOK w ok B r) : DecsOK w ok B (p :: r) := by
  intro xs kb t kb' h
  simp only [decs] at h
  split at h
  · cases h
  · rename_i x xs
    split at h
    · rename_i t₁ kb₁ h1
      split at h
      · rename_i t₂ kb₂ h2
        injection h with h; injection h with e1 e2; subst e1; subst e2
        have i1 := hp x kb t₁ kb₁ h1
        have i2 := hr xs kb₁ t₂ kb₂ h2
        refine ⟨i1.1.trans i2.1, by simp [i2.2.1], fun kbf ι vs he hs hv => ?_⟩
        have hr0 := hv 0 (by simp)
        have i2' := i2.2.2 kbf ι (vs.extract 1 vs.size) he (by simp [hs]) (fun i hi => by
          have := hv (i + 1) (by simp; omega)
          simp only [List.getD_cons_succ] at this
          rw [tail_getD]; exact this)
        refine ⟨by have := i2'.1; simp only [encs, List.length_cons]; simp at this; simp at hs; omega, fun i hi => ?_⟩
        cases i with
        | zero => simp only [encs, List.getD_cons_zero] at hr0 ⊢; exact i1.2 kbf ι _ (i2.1.trans he) hr0
        | succ i =>
          simp only [encs, List.getD_cons_succ, List.length_cons] at hi ⊢
          have := i2'.2 i (by omega)
          rw [tail_getD] at this; exact this
      · cases h
    · cases h
theorem Pat.dec_ok (p : Pat) : DecOK w ok B p :=
  Pat.rec (motive_1 := fun p => DecOK w ok B p) (motive_2 := fun l => DecsOK w ok B l) dec_int dec_bool dec_str dec_nilIface dec_nilPtr dec_nils (fun x kb t kb' h => by simp only [Pat.dec] at h; cases h)
    dec_ro dec_own dec_sl dec_ptr dec_fn dec_agg dec_tuple dec_iface dec_ownN dec_bself dec_mp dec_ownV dec_csl dec_nilMap decs_nil decs_cons p
theorem decs_ok : ∀ l : List Pat, DecsOK w ok B l
  | [] => decs_nil
  | p :: r => decs_cons p r (Pat.dec_ok p) (decs_ok r)
end
end Go.Ev

namespace Go.Ev
section
variable {w : World} {ok : Nat → Prop} {B : Nat}
theorem OPat.dec_ok {p : OPat} {o : AObj} {kb kb' : KB} {t : p.T} (h : p.dec o kb = some (t, kb')) : Ext kb kb' ∧ ((p.enc (fun j => j) t).owned = true → o.owned = true) ∧
    ∀ kbf ι k key, Ext kb' kbf → look kbf k = some key → ObjOK w ok B ι key o → ObjOK w ok B (under kbf ι) k (p.enc (fun j => j) t) := by
  cases p with
  | cells l =>
    simp only [OPat.dec] at h
    split at h
    · rename_i cs hc
      unfold cellsOf at hc
      split at hc
      · injection hc with hc; subst hc
        have ih := decs_ok (w := w) (ok := ok) (B := B) l _ _ _ _ h
        refine ⟨ih.1, fun _ => rfl, fun kbf ι k key he hk ho => ?_⟩
        obtain ⟨L, vs, ty, h1, h2, h3, h4, h5⟩ := ho
        have := ih.2.2 kbf ι vs he h4 h5
        exact ⟨L, vs, ty, (under_of hk).trans h1, h2, h3, this.1, this.2⟩
      · cases hc
    · cases h
  | row lk =>
    simp only [OPat.dec] at h
    split at h
    · rename_i l hl
      unfold rowOf at hl
      split at hl
      · injection hl with hl; subst hl
        split at h
        · rename_i t' ht
          injection h with h; injection h with e1 e2; subst e1; subst e2
          refine ⟨Ext.refl _, fun _ => rfl, fun kbf ι k key he hk ho => ?_⟩
          obtain ⟨L, h1, h2, h3, h4⟩ := ho
          obtain ⟨g1, g2, _⟩ := LK.dec_enc ht
          have g3 := LK.dec_elem (w := w) (ok := ok) (B := B) ht
          refine ⟨L, (under_of hk).trans h1, h2.trans g1.symm, h3, fun hc => ?_⟩
          obtain ⟨vs, ty, fr, a1, a2, a3, a4, a5⟩ := h4 hc
          exact ⟨vs, ty, fr, a1, fun ho => ⟨(a2 ho).1, LK.rowTy_enc ht (a2 ho).2⟩, a3, by rw [g2]; exact a4, a5.weaken g1 g2 g3.1 g3.2⟩
        · cases h
      · cases hl
    · cases h
  | iter =>
    simp only [OPat.dec] at h
    split at h
    · rename_i q hq
      unfold iterOf at hq
      split at hq
      · injection hq with hq; subst hq
        injection h with h; injection h with e1 e2; subst e1; subst e2
        refine ⟨Ext.refl _, fun _ => rfl, fun kbf ι k key he hk ho => ?_⟩
        obtain ⟨L, h1, h2, h3⟩ := ho
        exact ⟨L, (under_of hk).trans h1, h2, h3⟩
      · cases hq
    · cases h
  | dead =>
    simp only [OPat.dec] at h
    injection h with h; injection h with e1 e2; subst e2
    exact ⟨Ext.refl _, fun h => (by cases h), fun _ _ _ _ _ _ _ => trivial⟩
  | mapS =>
    simp only [OPat.dec] at h
    split at h
    · rename_i q hq
      unfold mapOf at hq
      split at hq
      · injection hq with hq; subst hq
        injection h with h; injection h with e1 e2; subst e1; subst e2
        refine ⟨Ext.refl _, fun _ => rfl, fun kbf ι k key he hk ho => ?_⟩
        obtain ⟨L, vs, c, h1, h2, h3, h4⟩ := ho
        exact ⟨L, vs, c, (under_of hk).trans h1, h2, h3, h4⟩
      · cases hq
    · cases h
  | coll =>
    simp only [OPat.dec] at h
    split at h
    · rename_i q hq
      unfold isColl at hq
      split at hq
      · injection h with h; injection h with e1 e2; subst e2
        refine ⟨Ext.refl _, fun _ => rfl, fun kbf ι k key he hk ho => ?_⟩
        obtain ⟨L, h1, h2, h3⟩ := ho
        exact ⟨L, (under_of hk).trans h1, h2, h3⟩
      · cases hq
    · cases h

theorem decSlots_ok {st : St} : ∀ (l : List (Nat × Pat)) (kb : KB) (x : Ts (l.map (·.2))) (kb' : KB), decSlots st l kb = some (x, kb') → Ext kb kb' ∧
    ∀ kbf G ι ok a w, Ext kb' kbf → SimI G ι ok st a w → ∀ i y, look (encSlots (fun j => j) l x) i = some y → i < st.n ∧ Rep w ok G.B (under kbf ι) y (a.tmps.getD i undef)
  | [], kb, x, kb', h => by
    simp only [decSlots] at h
    injection h with h; injection h with e1 e2; subst e2
    exact ⟨Ext.refl _, fun _ _ _ _ _ _ _ _ i y hy => by simp [encSlots, look] at hy⟩
  | (i, p) :: r, kb, x, kb', h => by
    simp only [decSlots] at h
    split at h
    · rename_i z hz
      split at h
      · rename_i t kb₁ h1
        split at h
        · rename_i ts kb₂ h2
          injection h with h; injection h with e1 e2; subst e1; subst e2
          have i2 := decSlots_ok r kb₁ ts kb₂ h2
          refine ⟨(Pat.dec_ok (w := default) (ok := fun _ => True) (B := 0) p z kb t kb₁ h1).1.trans i2.1, fun kbf G ι ok a w he hs j y hy => ?_⟩
          have i1 := Pat.dec_ok (w := w) (ok := ok) (B := G.B) p z kb t kb₁ h1
          simp only [encSlots, look_cons] at hy
          split at hy
          · rename_i e; subst e; injection hy with hy; subst hy
            obtain ⟨a1, a2⟩ := hs.slots _ _ hz
            exact ⟨a1, i1.2 kbf ι _ (i2.1.trans he) a2⟩
          · exact i2.2 kbf G ι ok a w he hs j y hy
        · cases h
      · cases h
    · cases h

theorem decObjs_ok {st : St} : ∀ (l : List OPat) (j : Nat) (kb : KB) (x : TOs l) (kb' : KB), decObjs st l j kb = some (x, kb') → Ext kb kb' ∧
    ∀ kbf G ι ok a w, Ext kb' kbf → SimI G ι ok st a w → ∀ k o, look (encObjs (fun j => j) l j x) k = some o → j ≤ k ∧ k < j + l.length ∧
      ∃ key o', look kbf k = some key ∧ look st.ar key = some o' ∧ (o.owned = true → o'.owned = true) ∧ ObjOK w ok G.B (under kbf ι) k o
  | [], j, kb, x, kb', h => by
    simp only [decObjs] at h
    injection h with h; injection h with e1 e2; subst e2
    exact ⟨Ext.refl _, fun _ _ _ _ _ _ _ _ i y hy => by simp [encObjs, look] at hy⟩
  | p :: r, j, kb, x, kb', h => by
    simp only [decObjs] at h
    split at h
    · rename_i key hkey
      split at h
      · rename_i o ho
        split at h
        · rename_i t kb₁ h1
          split at h
          · rename_i ts kb₂ h2
            injection h with h; injection h with e1 e2; subst e1; subst e2
            have i2 := decObjs_ok r (j + 1) kb₁ ts kb₂ h2
            have e0 := (OPat.dec_ok (w := default) (ok := fun _ => True) (B := 0) h1).1
            refine ⟨e0.trans i2.1, fun kbf G ι ok a w he hs k o' hk => ?_⟩
            simp only [encObjs, look_cons] at hk
            split at hk
            · rename_i e; subst e; injection hk with hk; subst hk
              have i1 := OPat.dec_ok (w := w) (ok := ok) (B := G.B) h1
              have hkf := he _ _ (i2.1 _ _ (e0 _ _ hkey))
              exact ⟨Nat.le_refl _, by simp, key, o, hkf, ho, i1.2.1, i1.2.2 kbf ι _ key (i2.1.trans he) hkf (hs.objs _ _ ho)⟩
            · obtain ⟨a1, a2, a3⟩ := i2.2 kbf G ι ok a w he hs k o' hk
              exact ⟨by omega, by simp only [List.length_cons]; omega, a3⟩
          · cases h
        · cases h
      · cases h
    · cases h
end
theorem distinct_ok : ∀ (kb : KB), distinct kb = true → ∀ i j k, look kb i = some k → look kb j = some k → i = j
  | [], _, i, j, k, h, _ => by cases h
  | (a, b) :: r, hd, i, j, k, hi, hj => by
    simp only [distinct, Bool.and_eq_true] at hd
    have hne : ∀ i, look r i = some b → False := by
      intro i hl
      have : ∀ (l : KB) i, look l i = some b → (l.all fun p => !Nat.beq p.2 b) = true → False := by
        intro l
        induction l with
        | nil => intro i h; cases h
        | cons q l ih =>
          intro i h hall
          obtain ⟨q1, q2⟩ := q
          rw [look_cons] at h
          simp only [List.all_cons, Bool.and_eq_true] at hall
          split at h
          · injection h with h; subst h; simp [Nat.beq_refl] at hall
          · exact ih i h hall.2
      exact this r i hl hd.1
    rw [look_cons] at hi hj
    split at hi
    · injection hi with hi; subst hi
      split at hj
      · rename_i e1 e2; exact e1.symm.trans e2
      · exact (hne j hj).elim
    · split at hj
      · injection hj with hj; subst hj; exact (hne i hi).elim
      · exact distinct_ok r hd.2 i j k hi hj
theorem look_all {kb : KB} {n : Nat} (h : (kb.all fun p => Nat.blt p.1 n) = true) {j k : Nat} (hj : look kb j = some k) : j < n := by
  induction kb with
  | nil => cases hj
  | cons q l ih =>
    obtain ⟨q1, q2⟩ := q
    simp only [List.all_cons, Bool.and_eq_true] at h
    rw [look_cons] at hj
    split at hj
    · rename_i e; subst e; simpa [Nat.blt_eq] using h.1
    · exact ih h.2 hj

theorem tagged_ok {st : St} {kb : KB} : ∀ (l : List (Nat × Nat)), tagged st kb l = true → ∀ j g, look l j = some g → ∃ k, look kb j = some k ∧ look st.tg k = some g
  | [], _, j, g, h => by cases h
  | (a, b) :: r, ht, j, g, h => by
    simp only [tagged, Bool.and_eq_true] at ht
    rw [look_cons] at h
    split at h
    · rename_i e; subst e; injection h with h; subst h
      have h1 := ht.1
      split at h1
      · rename_i k hk
        split at h1
        · rename_i g' hg
          have := beq_eq h1; subst this
          exact ⟨k, hk, hg⟩
        · cases h1
      · cases h1
    · exact tagged_ok r ht.2 j g h
theorem decDf_ok {l : List Pat} {xs : List AV} {kb : KB} {t : Ts l} {kb' : KB} (h : decs l xs kb = some (t, kb')) : Ext kb kb' ∧ (encs (fun j => j) l t).length = xs.length ∧
    ∀ w ok B kbf ι (i : Nat) (y z : AV) (v : Value), Ext kb' kbf → xs[i]? = some z → (encs (fun j => j) l t)[i]? = some y → Rep w ok B ι z v → Rep w ok B (under kbf ι) y v := by
  induction l generalizing xs kb with
  | nil =>
    simp only [decs] at h
    split at h
    · injection h with h; injection h with h1 h2; subst h2
      exact ⟨Ext.refl _, rfl, fun w ok B kbf ι i y z v _ hi => by simp at hi⟩
    · cases h
  | cons p r ih =>
    simp only [decs] at h
    split at h
    · cases h
    · rename_i x xs
      split at h
      · rename_i t₁ kb₁ h1
        split at h
        · rename_i t₂ kb₂ h2
          injection h with h; injection h with e1 e2; subst e1; subst e2
          have i2 := ih h2
          have i0 := (Pat.dec_ok (w := default) (ok := fun _ => True) (B := 0) p x kb t₁ kb₁ h1).1
          refine ⟨i0.trans i2.1, by simp [encs, i2.2.1], fun w ok B kbf ι i y z v he hx hy hr => ?_⟩
          cases i with
          | zero =>
            simp only [encs, List.getElem?_cons_zero, Option.some.injEq] at hx hy
            subst hx; subst hy
            exact (Pat.dec_ok (w := w) (ok := ok) (B := B) p _ kb t₁ kb₁ h1).2 kbf ι v (i2.1.trans he) hr
          | succ i =>
            simp only [encs, List.getElem?_cons_succ] at hx hy
            exact i2.2.2 w ok B kbf ι i y z v he hx hy hr
        · cases h
      · cases h
/-- A state that fits a template is told by the template and its data. -/
theorem Tmpl.dec_simI {t : Tmpl} {st : St} {x : t.T} {kb : KB} (h : t.dec st = some (x, kb)) {G : Base} {ι : Loci} {ok : Nat → Prop} {a : Act} {w : World} (hs : SimI G ι ok st a w) :
    SimI G (under kb ι) ok (t.enc st.n x) a w := by
  unfold Tmpl.dec at h
  split at h
  · rename_i x₁ kb₁ h1
    split at h
    · rename_i z₁ kb₀ h0
      split at h
      · rename_i y₁ kb₂ h2
        obtain ⟨hd, h⟩ := cond_none h
        injection h with h; injection h with e1 e2; subst e1; subst e2
        rw [Bool.and_eq_true, Bool.and_eq_true] at hd
        have i1 := decSlots_ok t.ts _ x₁ kb₁ h1
        have i0 := decDf_ok h0
        have i2 := decObjs_ok t.objs 0 kb₀ y₁ kb₂ h2
        have hslots := i1.2 kb₂ G ι ok a w (i0.1.trans i2.1) hs
        have hobjs := i2.2 kb₂ G ι ok a w (Ext.refl _) hs
        exact {
          size := hs.size
          dfn := hs.dfn.trans i0.2.1.symm
          dfs := by
            intro i y d hy hd'
            have hlt : i < st.df.length := by
              have : i < a.defers.length := by
                rcases Nat.lt_or_ge i a.defers.length with h | h
                · exact h
                · rw [List.getElem?_eq_none h] at hd'; cases hd'
              rw [← hs.dfn]; exact this
            obtain ⟨f, caps, g1, g2⟩ := hs.dfs i (st.df[i]) d (List.getElem?_eq_getElem hlt) hd'
            exact ⟨f, caps, i0.2.2 w ok G.B kb₂ ι i y _ _ i2.1 (List.getElem?_eq_getElem hlt) hy g1, g2⟩
          tags := by
            intro k j hk
            obtain ⟨key, hk1, hk2⟩ := tagged_ok _ hd.2 k j hk
            rw [under_of hk1]
            exact hs.tags key j hk2
          slots := hslots
          objs := fun k o hk => by obtain ⟨_, _, key, o', _, _, _, g⟩ := hobjs k o hk; exact g
          inj := by
            intro k₁ k₂ o₁ o₂ L₁ L₂ hk₁ hk₂ ho₁ ho₂ hl₁ hl₂ hc₁ hc₂ hb
            obtain ⟨_, _, key₁, p₁, a1, a2, a3, _⟩ := hobjs k₁ o₁ hk₁
            obtain ⟨_, _, key₂, p₂, b1, b2, b3, _⟩ := hobjs k₂ o₂ hk₂
            rw [under_of a1] at hl₁
            rw [under_of b1] at hl₂
            have := hs.inj key₁ key₂ p₁ p₂ L₁ L₂ a2 b2 (a3 ho₁) (b3 ho₂) hl₁ hl₂ hc₁ hc₂ hb
            subst this
            exact distinct_ok kb₂ hd.1.1 _ _ _ a1 b1
          apart := by
            intro k o L hk ho hl hc
            obtain ⟨_, _, key, p, a1, a2, a3, _⟩ := hobjs k o hk
            rw [under_of a1] at hl
            exact hs.apart key p L a2 (a3 ho) hl hc
          fresh := by
            intro k hk
            have hk' : t.objs.length ≤ k := hk
            unfold under
            cases hl : look kb₂ k with
            | none => rfl
            | some key => have := look_all hd.1.2 hl; omega
          os := hs.os, tape := hs.tape, output := hs.output, heap := hs.heap, block := hs.block, okin := hs.okin, oksub := hs.oksub, oklt := hs.oklt }
      · cases h
    · cases h
  · cases h
theorem Tmpl.dec_sim {t : Tmpl} {st : St} {x : t.T} {kb : KB} (h : t.dec st = some (x, kb)) {G : Base} {a : Act} {w : World} (hs : Sim G st a w) : Sim G (t.enc st.n x) a w := by
  obtain ⟨ι, ok, hs⟩ := hs
  exact ⟨_, _, Tmpl.dec_simI h hs⟩
end Go.Ev

namespace Go.Ev
set_option linter.unusedSimpArgs false
set_option linter.unusedVariables false
/-! ### a state made to fit a template: a nil slice as a row of the call's own, a row of the call's own as one that is only read -/
def LK.nil : LK → Lst
  | .I k => .I k []
  | .S => .S []
  | .A sh sz => .A sh sz []
def rowAt (l : List OPat) (j : Nat) : Option LK :=
  match l[j]? with
  | some (.row lk) => some lk
  | _ => none
def frozen0 (st : St) : AV → Option (Key × Lst × Lst)
  | .own k => match look st.ar k with
    | some (.row true l) => some (k, l, l)
    | some (.row false l) => some (k, l, l)
    | _ => none
  | .sl k sz off len => match look st.ar k with
    | some (.row _ l) => bif Nat.beq sz l.sz then some (k, l, (match l with
      | .I k l => .I k ((l.drop off).take len)
      | .S l => .S ((l.drop off).take len)
      | .A sh sz l => .A sh sz ((l.drop off).take len))) else none
    | _ => none
  | _ => none
def frozen (st : St) (x : AV) : Option (Key × Lst × Lst) := frozen0 st (unN x)
def adapt1 (t : Tmpl) (i : Nat) (p : Pat) (st : St) : St :=
  match p, look st.ts i with
  | .own j, some .nils => match rowAt t.objs j with
    | some lk => { st with nk := st.nk + 1, ar := (st.nk, .row true lk.nil) :: st.ar, ts := (i, .own st.nk) :: st.ts }
    | none => st
  | .sl j _, some .nils => match rowAt t.objs j with
    | some lk => { st with nk := st.nk + 1, ar := (st.nk, .row true lk.nil) :: st.ar, ts := (i, .sl st.nk lk.nil.sz 0 0) :: st.ts }
    | none => st
  | .ownN j, some .nils => match rowAt t.objs j with
    | some lk => { st with nk := st.nk + 1, ar := (st.nk, .row true lk.nil) :: st.ar, ts := (i, .ownN st.nk) :: st.ts }
    | none => st
  | .sl _ _, some (.ownN k) => match look st.ar k with
    | some (.row _ l) => { st with ts := (i, .sl k l.sz 0 l.length) :: st.ts }
    | _ => st
  | .sl _ _, some (.own k) => match look st.ar k with
    | some (.row _ l) => { st with ts := (i, .sl k l.sz 0 l.length) :: st.ts }
    | _ => st
  | .ro _ _, some x => match frozen st x with
    | some (k, l, l') => { st with ar := (k, .row false l) :: st.ar, ts := (i, .ro false l') :: st.ts }
    | none => st
  | _, _ => st
def adaptL (t : Tmpl) : List (Nat × Pat) → St → St
  | [], st => st
  | (i, p) :: r, st => adaptL t r (adapt1 t i p st)
theorem SimI.nilRow {G : Base} {ι : Loci} {ok : Nat → Prop} {st : St} {a : Act} {w : World} (h : SimI G ι ok st a w) (lk : LK) :
    SimI G (fun i => if i = st.nk then some ⟨0, 0, 0, 0⟩ else ι i) ok { st with nk := st.nk + 1, ar := (st.nk, .row true lk.nil) :: st.ar } a w := by
  have hf := h.fresh st.nk (Nat.le_refl _)
  have hle : ∀ i L', ι i = some L' → (fun i => if i = st.nk then some (⟨0, 0, 0, 0⟩ : Loc) else ι i) i = some L' := by
    intro i L' hi
    by_cases e : i = st.nk
    · subst e; rw [hf] at hi; cases hi
    · simp only [e, if_false]; exact hi
  have hid : ∀ b : Nat, ok b → w.heap[b]? = w.heap[b]? := fun _ _ => rfl
  have zero : ∀ {L : Loc}, (fun i => if i = st.nk then some (⟨0, 0, 0, 0⟩ : Loc) else ι i) st.nk = some L → L.cp = 0 := by
    intro L hl
    simp only [if_true] at hl
    injection hl with hl; subst hl; rfl
  exact {
    size := h.size
    dfn := h.dfn
    dfs := fun i x d hx hd => by obtain ⟨f, caps, g1, g2⟩ := h.dfs i x d hx hd; exact ⟨f, caps, g1.mono hid (fun _ h => h) hle, g2⟩
    tags := fun k j hk => by
      obtain ⟨g1, L', g2⟩ := h.tags k j hk
      have := hle k L' g2
      exact ⟨this.trans (g2.symm.trans g1), L', this⟩
    slots := fun t x hx => ⟨(h.slots t x hx).1, (h.slots t x hx).2.mono hid (fun _ h => h) hle⟩
    objs := fun k o' hk => by
      rw [look_cons] at hk
      split at hk
      · rename_i e; subst e; injection hk with hk; subst hk
        exact ⟨⟨0, 0, 0, 0⟩, by simp, by cases lk <;> rfl, Nat.le_refl _, fun hc => by cases hc⟩
      · exact (h.objs k o' hk).mono (fun _ _ _ => rfl) hid (fun _ h => h) hle
    inj := by
      intro k₁ k₂ o₁ o₂ L₁ L₂ hk₁ hk₂ ho₁ ho₂ hl₁ hl₂ hc₁ hc₂ hb
      rw [look_cons] at hk₁ hk₂
      by_cases e₁ : st.nk = k₁
      · subst e₁; have := zero hl₁; omega
      · by_cases e₂ : st.nk = k₂
        · subst e₂; have := zero hl₂; omega
        · rw [if_neg e₁] at hk₁
          rw [if_neg e₂] at hk₂
          simp only [show k₁ ≠ st.nk from fun e => e₁ e.symm, if_false] at hl₁
          simp only [show k₂ ≠ st.nk from fun e => e₂ e.symm, if_false] at hl₂
          exact h.inj k₁ k₂ o₁ o₂ L₁ L₂ hk₁ hk₂ ho₁ ho₂ hl₁ hl₂ hc₁ hc₂ hb
    apart := by
      intro k o' L' hk hown hl hc
      rw [look_cons] at hk
      by_cases e : st.nk = k
      · subst e; have := zero hl; omega
      · rw [if_neg e] at hk
        simp only [show k ≠ st.nk from fun e' => e e'.symm, if_false] at hl
        exact h.apart k o' L' hk hown hl hc
    fresh := fun k hk => by
      have hk1 : st.nk + 1 ≤ k := hk
      have hne : k ≠ st.nk := fun e => Nat.not_succ_le_self st.nk (e ▸ hk1)
      simp only [hne, if_false]; exact h.fresh k (Nat.le_of_succ_le hk1)
    os := h.os, tape := h.tape, output := h.output, heap := h.heap, block := h.block, okin := h.okin, oksub := h.oksub, oklt := h.oklt }
/-- A row of the call's own is given up: from now on it is only read. -/
theorem SimI.freeze {G : Base} {ι : Loci} {ok : Nat → Prop} {st : St} {a : Act} {w : World} (h : SimI G ι ok st a w) {k : Key} {ow : Bool} {l : Lst} (hk : look st.ar k = some (.row ow l)) :
    ∃ ok' : Nat → Prop, SimI G ι ok' { st with ar := (k, .row false l) :: st.ar } a w ∧ (∀ L, ι k = some L → 0 < L.cp → ok' L.b) ∧ ∀ b, ok b → ok' b := by
  obtain ⟨L, h1, h2, h3, h4⟩ := h.objs _ _ hk
  have hid : ∀ b : Nat, ok b → w.heap[b]? = w.heap[b]? := fun _ _ => rfl
  have hι : ∀ (i : Key) (L' : Loc), ι i = some L' → ι i = some L' := fun _ _ h => h
  have hok : ∀ b, ok b → (fun b => ok b ∨ (0 < L.cp ∧ b = L.b)) b := fun b hb => .inl hb
  refine ⟨fun b => ok b ∨ (0 < L.cp ∧ b = L.b), ?_, fun L' hl hc => by rw [h1] at hl; injection hl with hl; subst hl; exact .inr ⟨hc, rfl⟩, hok⟩
  -- where the row lies
  have hlt : 0 < L.cp → L.b < w.heap.size := fun hc => by
    obtain ⟨vs, t, fr, g, _⟩ := h4 hc; exact (Array.getElem?_eq_some_iff.1 g).1
  have hsub : 0 < L.cp → G.ok0 L.b ∨ G.own0 L.b ∨ G.N ≤ L.b := fun hc => by
    cases ow with
    | true => exact .inr (h.apart k _ L hk rfl h1 hc).2
    | false => obtain ⟨vs, t, fr, g, _, g3, _⟩ := h4 hc; exact h.oksub _ (g3 rfl)
  exact {
    size := h.size
    dfn := h.dfn
    dfs := fun i x d hx hd => by obtain ⟨f, caps, g1, g2⟩ := h.dfs i x d hx hd; exact ⟨f, caps, g1.mono hid hok hι, g2⟩
    tags := h.tags
    slots := fun t x hx => ⟨(h.slots t x hx).1, (h.slots t x hx).2.mono hid hok hι⟩
    objs := fun k' o' hk' => by
      rw [look_cons] at hk'
      split at hk'
      · rename_i e; subst e; injection hk' with hk'; subst hk'
        refine ⟨L, h1, h2, h3, fun hc => ?_⟩
        obtain ⟨vs, t, fr, g1, g2, g3, g4, g5⟩ := h4 hc
        exact ⟨vs, t, fr, g1, (fun h => by cases h), fun _ => .inr ⟨hc, rfl⟩, g4, g5.mono rfl hid hok⟩
      · exact (h.objs k' o' hk').mono (fun _ _ _ => rfl) hid hok hι
    inj := by
      intro k₁ k₂ o₁ o₂ L₁ L₂ hk₁ hk₂ ho₁ ho₂
      rw [look_cons] at hk₁ hk₂
      split at hk₁
      · injection hk₁ with hk₁; subst hk₁; cases ho₁
      · split at hk₂
        · injection hk₂ with hk₂; subst hk₂; cases ho₂
        · exact h.inj k₁ k₂ o₁ o₂ L₁ L₂ hk₁ hk₂ ho₁ ho₂
    apart := by
      intro k' o' L' hk' hown hl hc
      rw [look_cons] at hk'
      split at hk'
      · injection hk' with hk'; subst hk'; cases hown
      · rename_i e
        have hap := h.apart k' o' L' hk' hown hl hc
        refine ⟨fun hb => ?_, hap.2⟩
        rcases hb with hb | ⟨hc', hb⟩
        · exact hap.1 hb
        · cases ow with
          | true => exact e (h.inj k k' _ o' L L' hk hk' rfl hown h1 hl hc' hc hb.symm)
          | false =>
            obtain ⟨vs, t, fr, g, _, g3, _⟩ := h4 hc'
            exact hap.1 (hb ▸ g3 rfl)
    fresh := h.fresh
    os := h.os, tape := h.tape, output := h.output, heap := h.heap, block := h.block
    okin := fun b hb => .inl (h.okin b hb)
    oksub := fun b hb => by
      rcases hb with hb | ⟨hc, rfl⟩
      · exact h.oksub b hb
      · exact hsub hc
    oklt := fun b hb => by
      rcases hb with hb | ⟨hc, rfl⟩
      · exact h.oklt b hb
      · exact hlt hc }
theorem SimI.slot {G : Base} {ι : Loci} {ok : Nat → Prop} {st : St} {a : Act} {w : World} (h : SimI G ι ok st a w) {i : Nat} (hi : i < st.n) {y : AV} (hy : Rep w ok G.B ι y (a.tmps.getD i undef)) :
    SimI G ι ok { st with ts := (i, y) :: st.ts } a w :=
  { h with
    slots := by
      intro t x hx
      rw [look_cons] at hx
      split at hx
      · rename_i e; subst e; injection hx with hx; subst hx; exact ⟨hi, hy⟩
      · exact h.slots t x hx }
/-- a frozen row by its header -/
theorem frozen0_ok {G : Base} {ι : Loci} {ok : Nat → Prop} {st : St} {a : Act} {w : World} (h : SimI G ι ok st a w) {x : AV} {k : Key} {l l' : Lst} (hx : frozen0 st x = some (k, l, l')) {v : Value} (hv : Rep w ok G.B ι x v) :
    ∃ ok' : Nat → Prop, SimI G ι ok' { st with ar := (k, .row false l) :: st.ar } a w ∧ Rep w ok' G.B ι (.ro false l') v ∧ ∀ b, ok b → ok' b := by
  have row : ∀ {ow : Bool} {L : Loc}, look st.ar k = some (.row ow l) → ι k = some L → 0 < L.cp → RowAt w ok G.B L.b L.o l ∧ L.n = l.length := by
    intro ow L hk hl hc
    obtain ⟨L', h1, h2, h3, h4⟩ := h.objs _ _ hk
    rw [hl] at h1; injection h1 with h1; subst h1
    obtain ⟨vs, t, fr, g1, g2, g3, g4, g5⟩ := h4 hc
    exact ⟨g5, h2⟩
  have hid : ∀ b : Nat, ok b → w.heap[b]? = w.heap[b]? := fun _ _ => rfl
  cases x with
  | own k' =>
    have hk : ∃ ow, look st.ar k = some (.row ow l) ∧ k' = k ∧ l' = l := by
      simp only [frozen0] at hx
      split at hx
      · rename_i l₁ hk; injection hx with hx; injection hx with e1 e2; injection e2 with e2 e3; subst e1; subst e2; subst e3; exact ⟨_, hk, rfl, rfl⟩
      · rename_i l₁ hk; injection hx with hx; injection hx with e1 e2; injection e2 with e2 e3; subst e1; subst e2; subst e3; exact ⟨_, hk, rfl, rfl⟩
      · cases hx
    obtain ⟨ow, hk, rfl, rfl⟩ := hk
    obtain ⟨ok', hs', hok', hmono⟩ := h.freeze hk
    refine ⟨ok', hs', ?_, hmono⟩
    obtain ⟨L, h1, h2, h3, h4⟩ := hs'.objs k' (.row false l') (by rw [look_cons]; simp)
    cases hv with
    | own g g1 =>
      rw [h1] at g; injection g with g; subst g
      obtain ⟨vs, t, fr, q1, q2, q3, q4, val, q5, q6, q7⟩ := h4 g1
      by_cases hn : 0 < L.n
      · exact .ro val h2 hn h3 (hok' L h1 g1) (fun h => by cases h) rfl (fun i j hi hj => q5 i j (by omega) hj) (fun i j hi hj => q6 i j (by omega) hj) (fun i hi => q7 i (by omega))
      · exact .ro0 h2 (by omega)
    | own0 g g1 g2 =>
      rw [h1] at g; injection g with g; subst g
      exact .ro0 (by omega) rfl
  | sl k' sz off len =>
    have hk : ∃ ow, look st.ar k = some (.row ow l) ∧ k' = k ∧ sz = l.sz ∧ (l'.length = min len (l.length - off)) ∧ l'.sz = l.sz ∧ ∀ i, i < len → l'.elem i = l.elem (off + i) := by
      simp only [frozen0] at hx
      split at hx
      · rename_i ow l₁ hk
        obtain ⟨e, hx⟩ := cond_none hx
        injection hx with hx; injection hx with e1 e2; injection e2 with e2 e3; subst e1; subst e2
        refine ⟨_, hk, rfl, beq_eq e, ?_⟩
        subst e3
        cases l₁ with
        | I kk l => exact ⟨by simp [Lst.length], rfl, fun i hi => by simp [Lst.elem, List.getD_eq_getElem?_getD, List.getElem?_take, List.getElem?_drop, hi]⟩
        | S l => exact ⟨by simp [Lst.length], rfl, fun i hi => by simp [Lst.elem, List.getD_eq_getElem?_getD, List.getElem?_take, List.getElem?_drop, hi]⟩
        | A sh s l => exact ⟨by simp [Lst.length], rfl, fun i hi => by simp [Lst.elem, List.getD_eq_getElem?_getD, List.getElem?_take, List.getElem?_drop, hi]⟩
      · cases hx
    obtain ⟨ow, hk, rfl, rfl, e1, e2, e3⟩ := hk
    obtain ⟨ok', hs', hok', hmono⟩ := h.freeze hk
    refine ⟨ok', hs', ?_, hmono⟩
    obtain ⟨L, h1, h2, h3, h4⟩ := hs'.objs k' (.row false l) (by rw [look_cons]; simp)
    cases hv with
    | sl g g1 g2 g3 g4 =>
      rename_i c L'
      rw [h1] at g; injection g with g; subst g
      obtain ⟨vs, t, fr, q1, q2, q3, q4, val, q5, q6, q7⟩ := h4 (by omega)
      have el : l'.length = len := by rw [e1]; exact Nat.min_eq_left (by omega)
      clear e1
      by_cases hn : 0 < len
      · refine .ro (fun i j => val (off + i) j) el.symm hn g2 (hok' L h1 (by omega)) (fun h => by cases h) rfl (fun i j hi hj => ?_) (fun i j hi hj => ?_) (fun i hi => ?_)
        · rw [e2] at hj ⊢
          have := q5 (off + i) j (by omega) hj
          rw [Nat.add_mul] at this
          show w.cell? ⟨L.b, L.o + off * l.sz + (i * l.sz + j), none⟩ = _
          rw [show L.o + off * l.sz + (i * l.sz + j) = L.o + (off * l.sz + i * l.sz + j) by omega]; exact this
        · rw [e2] at hj
          rw [e3 i hi]; exact q6 (off + i) j (by omega) hj
        · rw [e3 i hi, e2]; exact q7 (off + i) (by omega)
      · exact .ro0 el.symm (by omega)
    | sl0 g g1 g2 => exact .ro0 (by rw [e1, g1, Nat.zero_min]) g1
  | _ => simp [frozen0] at hx
theorem frozen_ok {G : Base} {ι : Loci} {ok : Nat → Prop} {st : St} {a : Act} {w : World} (h : SimI G ι ok st a w) {x : AV} {k : Key} {l l' : Lst} (hx : frozen st x = some (k, l, l')) {v : Value} (hv : Rep w ok G.B ι x v) :
    ∃ ok' : Nat → Prop, SimI G ι ok' { st with ar := (k, .row false l) :: st.ar } a w ∧ Rep w ok' G.B ι (.ro false l') v ∧ ∀ b, ok b → ok' b := frozen0_ok h hx (rep_unN hv)
theorem adapt1_sim (t : Tmpl) (i : Nat) (p : Pat) {G : Base} {st : St} {a : Act} {w : World} (h : Sim G st a w) : Sim G (adapt1 t i p st) a w := by
  obtain ⟨ι, ok, hs⟩ := h
  unfold adapt1
  split
  · rename_i j hl
    split
    · rename_i lk hlk
      have h1 := hs.nilRow lk
      obtain ⟨g1, g2⟩ := hs.slots _ _ hl
      refine ⟨_, ok, h1.slot (i := i) g1 ?_⟩
      generalize a.tmps.getD i undef = v at g2
      cases g2
      exact .own0 (L := ⟨0, 0, 0, 0⟩) (by simp) rfl rfl
    · exact ⟨ι, ok, hs⟩
  · rename_i j sz hl
    split
    · rename_i lk hlk
      have h1 := hs.nilRow lk
      obtain ⟨g1, g2⟩ := hs.slots _ _ hl
      refine ⟨_, ok, h1.slot (i := i) g1 ?_⟩
      generalize a.tmps.getD i undef = v at g2
      cases g2
      exact .sl0 (L := ⟨0, 0, 0, 0⟩) (by simp) rfl (Nat.le_refl _)
    · exact ⟨ι, ok, hs⟩
  · rename_i j hl
    split
    · rename_i lk hlk
      have h1 := hs.nilRow lk
      obtain ⟨g1, g2⟩ := hs.slots _ _ hl
      refine ⟨_, ok, h1.slot (i := i) g1 ?_⟩
      generalize a.tmps.getD i undef = v at g2
      cases g2
      exact .ownN0 (L := ⟨0, 0, 0, 0⟩) (by simp) rfl rfl
    · exact ⟨ι, ok, hs⟩
  · rename_i j sz k hl
    split
    · rename_i ow l hk
      obtain ⟨g1, g2⟩ := hs.slots _ _ hl
      obtain ⟨L, h1, h2, h3, h4⟩ := hs.objs _ _ hk
      refine ⟨ι, ok, hs.slot (i := i) g1 ?_⟩
      generalize a.tmps.getD i undef = v at g2
      cases g2 with
      | ownN g q q1 =>
        rw [h1] at g; injection g with g; subst g
        have := Rep.sl (w := w) (ok := ok) (B := G.B) (ι := ι) (k := k) (sz := l.sz) (off := 0) (len := l.length) (c := L.cp) h1 (by omega) (by omega) (by omega) q
        rw [Nat.zero_mul, Nat.add_zero] at this
        rw [h2]; exact this
      | ownN0 g q q2 =>
        rw [h1] at g; injection g with g; subst g
        rw [← h2, q2]
        exact .sl0 h1 rfl (Nat.zero_le _)
    · exact ⟨ι, ok, hs⟩
  · rename_i j sz k hl
    split
    · rename_i ow l hk
      obtain ⟨g1, g2⟩ := hs.slots _ _ hl
      obtain ⟨L, h1, h2, h3, h4⟩ := hs.objs _ _ hk
      refine ⟨ι, ok, hs.slot (i := i) g1 ?_⟩
      generalize a.tmps.getD i undef = v at g2
      cases g2 with
      | own g q =>
        rw [h1] at g; injection g with g; subst g
        have := Rep.sl (w := w) (ok := ok) (B := G.B) (ι := ι) (k := k) (sz := l.sz) (off := 0) (len := l.length) (c := L.cp) h1 (by omega) (by omega) (by omega) q
        rw [Nat.zero_mul, Nat.add_zero] at this
        rw [h2]; exact this
      | own0 g q q2 =>
        rw [h1] at g; injection g with g; subst g
        rw [← h2, q2]
        exact .sl0 h1 rfl (Nat.zero_le _)
    · exact ⟨ι, ok, hs⟩
  · rename_i nw lk x hl
    split
    · rename_i k l l' hf
      obtain ⟨g1, g2⟩ := hs.slots _ _ hl
      obtain ⟨ok', q1, q2, _⟩ := frozen_ok hs hf g2
      exact ⟨ι, ok', q1.slot (i := i) g1 q2⟩
    · exact ⟨ι, ok, hs⟩
  · exact ⟨ι, ok, hs⟩
theorem adaptL_sim (t : Tmpl) {G : Base} {a : Act} {w : World} : ∀ (l : List (Nat × Pat)) {st : St}, Sim G st a w → Sim G (adaptL t l st) a w
  | [], _, h => h
  | (i, p) :: r, _, h => adaptL_sim t r (adapt1_sim t i p h)
theorem adapt1_n (t : Tmpl) (i : Nat) (p : Pat) (st : St) : (adapt1 t i p st).n = st.n := by
  unfold adapt1
  split
  · split <;> rfl
  · split <;> rfl
  · split <;> rfl
  · split <;> rfl
  · split <;> rfl
  · split <;> rfl
  · rfl
theorem adaptL_n (t : Tmpl) : ∀ (l : List (Nat × Pat)) (st : St), (adaptL t l st).n = st.n
  | [], _ => rfl
  | (i, p) :: r, st => by rw [adaptL, adaptL_n t r, adapt1_n]
/-! ### objects made to fit: a nil slice in a struct as a row of the call's own -/
theorem SimI.reobj {G : Base} {ι : Loci} {ok : Nat → Prop} {st : St} {a : Act} {w : World} (h : SimI G ι ok st a w) {k : Key} {o o' : AObj} (hk : look st.ar k = some o) (ho : o.owned = o'.owned) (hobj : ObjOK w ok G.B ι k o') :
    SimI G ι ok { st with ar := (k, o') :: st.ar } a w :=
  { h with
    objs := fun k' o2 hk' => by
      rw [look_cons] at hk'
      split at hk'
      · rename_i e; subst e; injection hk' with hk'; subst hk'; exact hobj
      · exact h.objs _ _ hk'
    inj := by
      intro k₁ k₂ o₁ o₂ L₁ L₂ hk₁ hk₂ ho₁ ho₂ hl₁ hl₂ hc₁ hc₂ hb
      rw [look_cons] at hk₁ hk₂
      have g1 : ∃ p, look st.ar k₁ = some p ∧ p.owned = true := by
        split at hk₁
        · rename_i e; subst e; injection hk₁ with hk₁; subst hk₁; exact ⟨o, hk, by rw [ho]; exact ho₁⟩
        · exact ⟨o₁, hk₁, ho₁⟩
      have g2 : ∃ p, look st.ar k₂ = some p ∧ p.owned = true := by
        split at hk₂
        · rename_i e; subst e; injection hk₂ with hk₂; subst hk₂; exact ⟨o, hk, by rw [ho]; exact ho₂⟩
        · exact ⟨o₂, hk₂, ho₂⟩
      obtain ⟨p1, q1, q2⟩ := g1
      obtain ⟨p2, q3, q4⟩ := g2
      exact h.inj k₁ k₂ p1 p2 L₁ L₂ q1 q3 q2 q4 hl₁ hl₂ hc₁ hc₂ hb
    apart := by
      intro k' o2 L' hk' hown hl hc
      rw [look_cons] at hk'
      split at hk'
      · rename_i e; subst e; injection hk' with hk'; subst hk'
        exact h.apart k o L' hk (by rw [ho]; exact hown) hl hc
      · exact h.apart k' o2 L' hk' hown hl hc }
/-- what is told of an object is not said any more -/
theorem SimI.dead {G : Base} {ι : Loci} {ok : Nat → Prop} {st : St} {a : Act} {w : World} (h : SimI G ι ok st a w) (k : Key) : SimI G ι ok { st with ar := (k, .dead) :: st.ar } a w :=
  { h with
    objs := fun k' o hk => by
      rw [look_cons] at hk
      split at hk
      · injection hk with hk; subst hk; trivial
      · exact h.objs k' o hk
    inj := by
      intro k₁ k₂ o₁ o₂ L₁ L₂ hk₁ hk₂ ho₁ ho₂
      rw [look_cons] at hk₁ hk₂
      split at hk₁
      · injection hk₁ with hk₁; subst hk₁; cases ho₁
      · split at hk₂
        · injection hk₂ with hk₂; subst hk₂; cases ho₂
        · exact h.inj k₁ k₂ o₁ o₂ L₁ L₂ hk₁ hk₂ ho₁ ho₂
    apart := by
      intro k' o L hk ho
      rw [look_cons] at hk
      split at hk
      · injection hk with hk; subst hk; cases ho
      · exact h.apart k' o L hk ho }
def lkOf : Lst → LK
  | .I k _ => .I k
  | .S _ => .S
  | .A sh sz _ => .A sh sz
theorem take0 (l : Lst) : l.take 0 = (lkOf l).nil := by cases l <;> rfl
/-- the front of a row of the call's own, the row given up -/
theorem SimI.trunc {G : Base} {ι : Loci} {ok : Nat → Prop} {st : St} {a : Act} {w : World} (h : SimI G ι ok st a w) {kk : Key} {len : Nat} {l : Lst} {v : Value} (hk : look st.ar kk = some (.row true l)) (hv : Rep w ok G.B ι (.sl kk l.sz 0 len) v) :
    ∃ ι' : Loci, SimI G ι' ok { st with nk := st.nk + 1, ar := (st.nk, .row true (l.take len)) :: (kk, .dead) :: st.ar } a w ∧ Rep w ok G.B ι' (.own st.nk) v ∧ ∀ i L, ι i = some L → ι' i = some L := by
  have h1 := h.dead kk
  have hf := h.fresh st.nk (Nat.le_refl _)
  have hle : ∀ (L0 : Loc) i L', ι i = some L' → (fun i => if i = st.nk then some L0 else ι i) i = some L' := by
    intro L0 i L' hi
    by_cases e : i = st.nk
    · subst e; rw [hf] at hi; cases hi
    · simp only [e, if_false]; exact hi
  obtain ⟨L, o1, o2, o3, o4⟩ := h.objs _ _ hk
  cases hv with
  | sl0 g g1 g2 =>
    subst g1
    rw [take0]
    exact ⟨_, h1.nilRow (lkOf l), .own0 (L := ⟨0, 0, 0, 0⟩) (by simp) rfl rfl, hle _⟩
  | sl g g1 g2 g3 g4 =>
    rename_i c L'
    rw [o1] at g; injection g with g; subst g
    have hcp : 0 < L.cp := by omega
    obtain ⟨vs, t, fr, a1, a2, a3, a4, val, b1, b2, b3⟩ := o4 hcp
    have hap := h.apart kk _ L hk rfl o1 hcp
    have hlen : (l.take len).length = len := by cases l <;> simp [Lst.take, Lst.length] at o2 ⊢ <;> omega
    have hsz : (l.take len).sz = l.sz := by cases l <;> rfl
    have hel : ∀ i, i < len → (l.take len).elem i = l.elem i := by
      intro i hi
      cases l <;> simp [Lst.take, Lst.elem, List.getD_eq_getElem?_getD, List.getElem?_take, hi]
    have hid : ∀ b : Nat, ok b → w.heap[b]? = w.heap[b]? := fun _ _ => rfl
    let L2 : Loc := ⟨L.b, L.o, len, c⟩
    have hle := hle L2
    refine ⟨fun i => if i = st.nk then some L2 else ι i, ?_, ?_, hle⟩
    · exact {
        size := h.size
        dfn := h.dfn
        dfs := fun i x d hx hd => by obtain ⟨f, caps, g1, g2⟩ := h.dfs i x d hx hd; exact ⟨f, caps, g1.mono hid (fun _ h => h) hle, g2⟩
        tags := fun k j hk => by
          obtain ⟨g1, L', g2⟩ := h.tags k j hk
          have := hle k L' g2
          exact ⟨this.trans (g2.symm.trans g1), L', this⟩
        slots := fun t x hx => ⟨(h.slots t x hx).1, (h.slots t x hx).2.mono hid (fun _ h => h) hle⟩
        objs := fun k o' hk' => by
          rw [look_cons] at hk'
          split at hk'
          · rename_i e; subst e; injection hk' with hk'; subst hk'
            refine ⟨L2, by simp, hlen.symm, g2, fun _ => ⟨vs, t, fr, a1, fun ho => ⟨(a2 ho).1, ?_⟩, (fun h => by cases h), ?_, val, ?_, ?_, ?_⟩⟩
            · have := (a2 ho).2
              cases l with
              | I k l => cases k <;> exact this
              | S l => trivial
              | A sh sz l => trivial
            · rw [hsz]
              have : c * l.sz ≤ L.cp * l.sz := Nat.mul_le_mul_right _ (by omega)
              show L.o + c * l.sz ≤ vs.size
              omega
            · intro i j hi hj
              rw [hlen] at hi; rw [hsz] at hj ⊢
              exact b1 i j (by omega) hj
            · intro i j hi hj
              rw [hlen] at hi; rw [hsz] at hj
              rw [hel i hi]; exact b2 i j (by omega) hj
            · intro i hi
              rw [hlen] at hi
              rw [hel i hi, hsz]; exact b3 i (by omega)
          · exact (h1.objs k o' hk').mono (fun _ _ _ => rfl) hid (fun _ h => h) hle
        inj := by
          have sep : ∀ k o L', look ((kk, AObj.dead) :: st.ar) k = some o → o.owned = true → ι k = some L' → 0 < L'.cp → L'.b ≠ L.b := by
            intro k o L' hk' ho hl hc e
            rw [look_cons] at hk'
            split at hk'
            · injection hk' with hk'; subst hk'; cases ho
            · rename_i hne
              exact hne (h.inj kk k _ o L L' hk hk' rfl ho o1 hl hcp hc e.symm)
          intro k₁ k₂ o₁ o₂ L₁ L₂ hk₁ hk₂ ho₁ ho₂ hl₁ hl₂ hc₁ hc₂ hb
          rw [look_cons] at hk₁ hk₂
          by_cases e₁ : st.nk = k₁ <;> by_cases e₂ : st.nk = k₂
          · exact e₁.symm.trans e₂
          · subst e₁
            rw [if_neg e₂] at hk₂
            simp only [if_true] at hl₁
            injection hl₁ with hl₁; subst hl₁
            simp only [show k₂ ≠ st.nk from fun e => e₂ e.symm, if_false] at hl₂
            exact (sep k₂ o₂ L₂ hk₂ ho₂ hl₂ hc₂ hb.symm).elim
          · subst e₂
            rw [if_neg e₁] at hk₁
            simp only [if_true] at hl₂
            injection hl₂ with hl₂; subst hl₂
            simp only [show k₁ ≠ st.nk from fun e => e₁ e.symm, if_false] at hl₁
            exact (sep k₁ o₁ L₁ hk₁ ho₁ hl₁ hc₁ hb).elim
          · rw [if_neg e₁] at hk₁
            rw [if_neg e₂] at hk₂
            simp only [show k₁ ≠ st.nk from fun e => e₁ e.symm, if_false] at hl₁
            simp only [show k₂ ≠ st.nk from fun e => e₂ e.symm, if_false] at hl₂
            exact h1.inj k₁ k₂ o₁ o₂ L₁ L₂ hk₁ hk₂ ho₁ ho₂ hl₁ hl₂ hc₁ hc₂ hb
        apart := by
          intro k o' L' hk' hown hl hc
          rw [look_cons] at hk'
          by_cases e : st.nk = k
          · subst e
            simp only [if_true] at hl
            injection hl with hl; subst hl
            exact hap
          · rw [if_neg e] at hk'
            simp only [show k ≠ st.nk from fun e' => e e'.symm, if_false] at hl
            exact h1.apart k o' L' hk' hown hl hc
        fresh := fun k hk => by
          have hk1 : st.nk + 1 ≤ k := hk
          have hne : k ≠ st.nk := fun e => Nat.not_succ_le_self st.nk (e ▸ hk1)
          simp only [hne, if_false]; exact h.fresh k (Nat.le_of_succ_le hk1)
        os := h.os, tape := h.tape, output := h.output, heap := h.heap, block := h.block, okin := h.okin, oksub := h.oksub, oklt := h.oklt }
    · have := Rep.own (w := w) (ok := ok) (B := G.B) (ι := fun i => if i = st.nk then some L2 else ι i) (k := st.nk) (L := L2) (by simp) g4
      rw [Nat.zero_mul, Nat.add_zero]; exact this
def ownB (b : Nat) (k : Key) : AV := match b with | 0 => .own k | 1 => .ownN k | _ => .ownV k
def recell (st : St) (k : Key) (i : Nat) (lk : LK) (nb : Nat) : St :=
  match look st.ar k with
  | some (.cells cs) => match cs[i]? with
    | some .nils => bif Nat.blt k st.nk then { st with nk := st.nk + 1, ar := (k, .cells (cs.set i (ownB nb st.nk))) :: (st.nk, .row true lk.nil) :: st.ar } else st
    | some (.sl kk sz off len) => match look st.ar kk with
      | some (.row true l) => bif Nat.beq nb 0 && (Nat.beq off 0 && (Nat.beq sz l.sz && (Nat.blt k st.nk && !Nat.beq kk k))) then { st with nk := st.nk + 1, ar := (k, .cells (cs.set i (.own st.nk))) :: (st.nk, .row true (l.take len)) :: (kk, .dead) :: st.ar } else st
      | _ => st
    | _ => st
  | _ => st
/-- the same state of the world, with more places named -/
def ExtS (G : Base) (ι : Loci) (ok : Nat → Prop) (st' : St) (a : Act) (w : World) : Prop := ∃ ι' : Loci, SimI G ι' ok st' a w ∧ ∀ i L, ι i = some L → ι' i = some L
theorem ExtS.refl {G : Base} {ι : Loci} {ok : Nat → Prop} {st : St} {a : Act} {w : World} (h : SimI G ι ok st a w) : ExtS G ι ok st a w := ⟨ι, h, fun _ _ h => h⟩
theorem recell_ext {G : Base} {ι : Loci} {ok : Nat → Prop} {st : St} {a : Act} {w : World} (k : Key) (i : Nat) (lk : LK) (nb : Nat) (hs : SimI G ι ok st a w) : ExtS G ι ok (recell st k i lk nb) a w := by
  unfold recell
  split
  · rename_i cs hk
    split
    · rename_i hi
      cases hb : Nat.blt k st.nk <;> simp only [cond_true, cond_false]
      · exact .refl hs
      · have hlt : k < st.nk := by simpa [Nat.blt_eq] using hb
        have h1 := hs.nilRow lk
        have hne : st.nk ≠ k := fun e => Nat.lt_irrefl st.nk (by have q := hlt; rw [← e] at q; exact q)
        have hk1 : look ((st.nk, AObj.row true lk.nil) :: st.ar) k = some (.cells cs) := by rw [look_cons, if_neg hne]; exact hk
        obtain ⟨L, vs, t, g1, g2, g3, g4, g5⟩ := h1.objs k (.cells cs) hk1
        refine ⟨_, h1.reobj hk1 rfl ⟨L, vs, t, g1, g2, g3, by rw [List.length_set]; exact g4, fun j hj => ?_⟩, fun i L hl => ?_⟩
        · rw [List.length_set] at hj
          have hij : i < cs.length := (List.getElem?_eq_some_iff.1 hi).1
          by_cases e : i = j
          · subst e
            have g := g5 i hj
            have e1 : cs.getD i default = .nils := by rw [List.getD_eq_getElem?_getD, hi]; rfl
            have e2 : (cs.set i (ownB nb st.nk)).getD i default = ownB nb st.nk := by rw [List.getD_eq_getElem?_getD, List.getElem?_set_self hij]; rfl
            rw [e1] at g
            rw [e2]
            generalize vs.getD i undef = v at g
            cases g
            unfold ownB
            split
            · exact .own0 (L := ⟨0, 0, 0, 0⟩) (by simp) rfl rfl
            · exact .ownN0 (L := ⟨0, 0, 0, 0⟩) (by simp) rfl rfl
            · exact .ownV0 (L := ⟨0, 0, 0, 0⟩) (by simp) rfl rfl
          · have e2 : (cs.set i (ownB nb st.nk)).getD j default = cs.getD j default := by rw [List.getD_eq_getElem?_getD, List.getElem?_set_ne e, ← List.getD_eq_getElem?_getD]
            rw [e2]; exact g5 j hj
        · have hf := hs.fresh st.nk (Nat.le_refl _)
          by_cases e : i = st.nk
          · subst e; rw [hf] at hl; cases hl
          · simp only [e, if_false]; exact hl
    · rename_i kk sz off len hi
      split
      · rename_i l hl
        cases hb : (Nat.beq nb 0 && (Nat.beq off 0 && (Nat.beq sz l.sz && (Nat.blt k st.nk && !Nat.beq kk k)))) <;> simp only [cond_true, cond_false]
        · exact .refl hs
        · simp only [Bool.and_eq_true] at hb
          have e1 := beq_eq hb.2.1
          have e2 := beq_eq hb.2.2.1
          have hlt : k < st.nk := by have := hb.2.2.2.1; simpa [Nat.blt_eq] using this
          have hkk : kk ≠ k := by
            intro e
            have := hb.2.2.2.2
            subst e
            rw [Nat.beq_refl] at this; cases this
          subst e1; subst e2
          obtain ⟨L, vs, t, g1, g2, g3, g4, g5⟩ := hs.objs k (.cells cs) hk
          have hij : i < cs.length := (List.getElem?_eq_some_iff.1 hi).1
          have g := g5 i hij
          have e1 : cs.getD i default = .sl kk l.sz 0 len := by rw [List.getD_eq_getElem?_getD, hi]; rfl
          rw [e1] at g
          obtain ⟨ι1, h1, h2, h3⟩ := hs.trunc hl g
          have hne : st.nk ≠ k := fun e => Nat.lt_irrefl st.nk (by have q := hlt; rw [← e] at q; exact q)
          have hk1 : look ((st.nk, AObj.row true (l.take len)) :: (kk, .dead) :: st.ar) k = some (.cells cs) := by rw [look_cons, if_neg hne, look_cons, if_neg hkk]; exact hk
          refine ⟨_, h1.reobj hk1 rfl ⟨L, vs, t, h3 _ _ g1, g2, g3, by rw [List.length_set]; exact g4, fun j hj => ?_⟩, h3⟩
          rw [List.length_set] at hj
          by_cases e : i = j
          · subst e
            have e2 : (cs.set i (.own st.nk)).getD i default = .own st.nk := by rw [List.getD_eq_getElem?_getD, List.getElem?_set_self hij]; rfl
            rw [e2]; exact h2
          · have e2 : (cs.set i (.own st.nk)).getD j default = cs.getD j default := by rw [List.getD_eq_getElem?_getD, List.getElem?_set_ne e, ← List.getD_eq_getElem?_getD]
            rw [e2]; exact (g5 j hj).mono (fun _ _ => rfl) (fun _ h => h) h3
      · exact .refl hs
    · exact .refl hs
  · exact .refl hs
theorem recell_sim {G : Base} {st : St} {a : Act} {w : World} (k : Key) (i : Nat) (lk : LK) (nb : Nat) (h : Sim G st a w) : Sim G (recell st k i lk nb) a w := by
  obtain ⟨ι, ok, hs⟩ := h
  obtain ⟨ι', h', _⟩ := recell_ext k i lk nb hs
  exact ⟨ι', ok, h'⟩
theorem recell_n (st : St) (k : Key) (i : Nat) (lk : LK) (nb : Nat) : (recell st k i lk nb).n = st.n := by
  unfold recell
  split
  · split
    · cases Nat.blt k st.nk <;> rfl
    · split
      · rename_i l _
        cases (Nat.beq nb 0 && (Nat.beq _ 0 && (Nat.beq _ l.sz && (Nat.blt k st.nk && !Nat.beq _ k)))) <;> rfl
      · rfl
    · rfl
  · rfl
/-- the cells of one object -/
def recells (t : Tmpl) (k : Key) : List Pat → Nat → St → St
  | [], _, st => st
  | .own j :: r, i, st => recells t k r (i + 1) (match rowAt t.objs j with | some lk => recell st k i lk 0 | none => st)
  | .ownN j :: r, i, st => recells t k r (i + 1) (match rowAt t.objs j with | some lk => recell st k i lk 1 | none => st)
  | .ownV j :: r, i, st => recells t k r (i + 1) (match rowAt t.objs j with | some lk => recell st k i lk 2 | none => st)
  | _ :: r, i, st => recells t k r (i + 1) st
theorem recells_sim (t : Tmpl) (k : Key) {G : Base} {a : Act} {w : World} : ∀ (l : List Pat) (i : Nat) {st : St}, Sim G st a w → Sim G (recells t k l i st) a w
  | [], _, _, h => h
  | p :: r, i, st, h => by
    cases p with
    | own j =>
      unfold recells
      cases rowAt t.objs j with
      | none => exact recells_sim t k r (i + 1) h
      | some lk => exact recells_sim t k r (i + 1) (recell_sim k i lk 0 h)
    | ownN j =>
      unfold recells
      cases rowAt t.objs j with
      | none => exact recells_sim t k r (i + 1) h
      | some lk => exact recells_sim t k r (i + 1) (recell_sim k i lk 1 h)
    | ownV j =>
      unfold recells
      cases rowAt t.objs j with
      | none => exact recells_sim t k r (i + 1) h
      | some lk => exact recells_sim t k r (i + 1) (recell_sim k i lk 2 h)
    | _ => exact recells_sim t k r (i + 1) h
theorem recells_n (t : Tmpl) (k : Key) : ∀ (l : List Pat) (i : Nat) (st : St), (recells t k l i st).n = st.n
  | [], _, _ => rfl
  | p :: r, i, st => by
    cases p with
    | own j =>
      unfold recells
      cases rowAt t.objs j with
      | none => exact recells_n t k r (i + 1) st
      | some lk => rw [recells_n t k r (i + 1)]; exact recell_n st k i lk 0
    | ownN j =>
      unfold recells
      cases rowAt t.objs j with
      | none => exact recells_n t k r (i + 1) st
      | some lk => rw [recells_n t k r (i + 1)]; exact recell_n st k i lk 1
    | ownV j =>
      unfold recells
      cases rowAt t.objs j with
      | none => exact recells_n t k r (i + 1) st
      | some lk => rw [recells_n t k r (i + 1)]; exact recell_n st k i lk 2
    | _ => exact recells_n t k r (i + 1) st
theorem recells_ext (t : Tmpl) (k : Key) {G : Base} {ok : Nat → Prop} {a : Act} {w : World} : ∀ (l : List Pat) (i : Nat) {st : St} {ι : Loci}, SimI G ι ok st a w → ExtS G ι ok (recells t k l i st) a w
  | [], _, _, _, h => .refl h
  | p :: r, i, st, ι, h => by
    cases p with
    | own j =>
      unfold recells
      cases rowAt t.objs j with
      | none => exact recells_ext t k r (i + 1) h
      | some lk =>
        obtain ⟨ι1, h1, e1⟩ := recell_ext k i lk 0 h
        obtain ⟨ι2, h2, e2⟩ := recells_ext t k r (i + 1) h1
        exact ⟨ι2, h2, fun i L hl => e2 i L (e1 i L hl)⟩
    | ownN j =>
      unfold recells
      cases rowAt t.objs j with
      | none => exact recells_ext t k r (i + 1) h
      | some lk =>
        obtain ⟨ι1, h1, e1⟩ := recell_ext k i lk 1 h
        obtain ⟨ι2, h2, e2⟩ := recells_ext t k r (i + 1) h1
        exact ⟨ι2, h2, fun i L hl => e2 i L (e1 i L hl)⟩
    | ownV j =>
      unfold recells
      cases rowAt t.objs j with
      | none => exact recells_ext t k r (i + 1) h
      | some lk =>
        obtain ⟨ι1, h1, e1⟩ := recell_ext k i lk 2 h
        obtain ⟨ι2, h2, e2⟩ := recells_ext t k r (i + 1) h1
        exact ⟨ι2, h2, fun i L hl => e2 i L (e1 i L hl)⟩
    | _ => exact recells_ext t k r (i + 1) h
mutual
/-- which objects of the state stand for those of a template -/
def pairsP : Pat → AV → List (Nat × Key)
  | .ptr j _, x => (match x with | .ptr k _ => [(j, k)] | _ => [])
  | .fn _ l, x => (match x with | .fn _ _ cs => pairsL l cs | _ => [])
  | .agg l, x => (match x with | .agg cs => pairsL l cs | _ => [])
  | .tuple l, x => (match x with | .tuple cs => pairsL l cs | _ => [])
  | .iface _ p, x => (match x with | .iface _ y => pairsP p y | _ => [])
  | _, _ => []
def pairsL : List Pat → List AV → List (Nat × Key)
  | [], _ => []
  | p :: r, xs => (match xs with | x :: xs => pairsP p x ++ pairsL r xs | [] => [])
end
def pairsO (t : Tmpl) (st : St) (q : Nat × Key) : List (Nat × Key) :=
  match t.objs[q.1]?, look st.ar q.2 with
  | some (.cells ps), some (.cells cs) => pairsL ps cs
  | _, _ => []
def pairsN (t : Tmpl) (st : St) : Nat → List (Nat × Key) → List (Nat × Key)
  | 0, l => l
  | n + 1, l => l ++ pairsN t st n (l.flatMap (pairsO t st))
def refit (t : Tmpl) : List (Nat × Key) → St → St
  | [], st => st
  | (j, k) :: r, st => refit t r (match t.objs[j]? with | some (.cells ps) => recells t k ps 0 st | _ => st)
theorem refit_sim (t : Tmpl) {G : Base} {a : Act} {w : World} : ∀ (l : List (Nat × Key)) {st : St}, Sim G st a w → Sim G (refit t l st) a w
  | [], _, h => h
  | (j, k) :: r, st, h => by
    unfold refit
    split
    · exact refit_sim t r (recells_sim t k _ 0 h)
    · exact refit_sim t r h
theorem refit_ext (t : Tmpl) {G : Base} {ok : Nat → Prop} {a : Act} {w : World} : ∀ (l : List (Nat × Key)) {st : St} {ι : Loci}, SimI G ι ok st a w → ExtS G ι ok (refit t l st) a w
  | [], _, _, h => .refl h
  | (j, k) :: r, st, ι, h => by
    unfold refit
    split
    · obtain ⟨ι1, h1, e1⟩ := recells_ext t k _ 0 h
      obtain ⟨ι2, h2, e2⟩ := refit_ext t r h1
      exact ⟨ι2, h2, fun i L hl => e2 i L (e1 i L hl)⟩
    · exact refit_ext t r h
theorem refit_n (t : Tmpl) : ∀ (l : List (Nat × Key)) (st : St), (refit t l st).n = st.n
  | [], _ => rfl
  | (j, k) :: r, st => by
    unfold refit
    split
    · rw [refit_n t r]; exact recells_n t k _ 0 st
    · exact refit_n t r st
def slotPairs (st : St) : List (Nat × Pat) → List (Nat × Key)
  | [] => []
  | (i, p) :: r => (match look st.ts i with | some x => pairsP p x | none => []) ++ slotPairs st r
def adapt (t : Tmpl) (st : St) : St := adaptL t t.ts (refit t (pairsN t st 2 (tagKB st t.tags ++ (slotPairs st t.ts ++ pairsL t.df st.df))) st)
theorem adapt_sim (t : Tmpl) {G : Base} {st : St} {a : Act} {w : World} (h : Sim G st a w) : Sim G (adapt t st) a w := adaptL_sim t t.ts (refit_sim t _ h)
theorem adapt_n (t : Tmpl) (st : St) : (adapt t st).n = st.n := by rw [adapt, adaptL_n, refit_n]
end Go.Ev

namespace Go.Ev
/-! ### ways out -/
inductive XK where
  | normal | exit (id : Nat) | goto (l : Nat) | ret | pan
abbrev Outs := List (XK × Tmpl)
def ESum : Outs → Type
  | [] => Empty
  | [o] => o.2.T
  | o :: o' :: r => o.2.T ⊕ ESum (o' :: r)
def St.one (st : St) (v : AV) : St := ⟨1, st.nk, [(0, v)], st.ar, st.tg, st.df⟩
def St.bare (st : St) (n : Nat) : St := ⟨n, st.nk, [], st.ar, st.tg, st.df⟩
/-- what is panicked with stands behind the frame's places -/
def panAt (n : Nat) (st : St) : AV := match look st.ts n with | some v => v | none => default
def St.withPan (st : St) (v : AV) : St := { st with n := st.n + 1, ts := (st.n, v) :: st.ts }
def dropAt (n : Nat) : List (Nat × AV) → List (Nat × AV)
  | [] => []
  | (i, x) :: r => bif Nat.beq i n then dropAt n r else (i, x) :: dropAt n r
def St.popPan (n : Nat) (st : St) : St := { st with n := n, ts := dropAt n st.ts }
def outX (n : Nat) (o : XK × Tmpl) (y : o.2.T) : X :=
  match o.1 with
  | .normal => .normal | .exit i => .exit i | .goto l => .goto l | .ret => .ret
  | .pan => .pan (panAt n (o.2.enc (n + 1) y))
def outSt (n : Nat) (o : XK × Tmpl) (y : o.2.T) : St :=
  match o.1 with
  | .pan => (o.2.enc (n + 1) y).popPan n
  | _ => o.2.enc n y
/-- the way out, and the state there -/
def outK {R : Type} (n : Nat) : (outs : Outs) → ESum outs → (X → St → Option R) → Option R
  | [], y, _ => nomatch y
  | [o], y, K => K (outX n o y) (outSt n o y)
  | o :: o' :: r, y, K => Sum.elim (fun y => K (outX n o y) (outSt n o y)) (fun y => outK n (o' :: r) y K) y
def decT (t : Tmpl) (st : St) : Option t.T := match t.dec (adapt t st) with | some p => some p.1 | none => none
def decP (t : Tmpl) (n : Nat) (st : St) : Option t.T := match t.dec (adapt t st) with
  | some p => match look (t.enc (n + 1) p.1).ts n with
    | some _ => some p.1
    | none => none
  | none => none
def decOut (o : XK × Tmpl) (x : X) (st : St) : Option o.2.T :=
  match o.1, x with
  | .normal, .normal => decT o.2 st
  | .exit i, .exit j => bif Nat.beq i j then decT o.2 st else none
  | .goto i, .goto j => bif Nat.beq i j then decT o.2 st else none
  | .ret, .ret => decT o.2 st
  | .pan, .pan v => decP o.2 st.n (st.withPan v)
  | _, _ => none
def decOuts : (outs : Outs) → X → St → Option (ESum outs)
  | [], _, _ => none
  | [o], x, st => decOut o x st
  | o :: o' :: r, x, st => match decOut o x st with
    | some y => some (.inl y)
    | none => match decOuts (o' :: r) x st with
      | some y => some (.inr y)
      | none => none

theorem SimI.one {G : Base} {ι : Loci} {ok : Nat → Prop} {st : St} {a : Act} {w : World} (h : SimI G ι ok st a w) {v : AV} {cv : Value} (hv : Rep w ok G.B ι v cv) :
    SimI G ι ok (st.one v) ⟨#[cv], a.defers⟩ w :=
  { h with
    size := rfl
    slots := by
      intro t x hx
      simp only [St.one, look_cons] at hx
      split at hx
      · rename_i e; subst e; injection hx with hx; subst hx; exact ⟨by simp [St.one], hv⟩
      · cases hx }
theorem SimI.bare {G : Base} {ι : Loci} {ok : Nat → Prop} {st : St} {a a' : Act} {w : World} (h : SimI G ι ok st a w) (hd : a'.defers = a.defers) : SimI G ι ok (st.bare a'.tmps.size) a' w :=
  { h with
    size := rfl
    dfn := by rw [hd]; exact h.dfn
    dfs := by rw [hd]; exact h.dfs
    slots := by intro t x hx; cases hx }

theorem SimI.withPan {G : Base} {ι : Loci} {ok : Nat → Prop} {st : St} {a : Act} {w : World} (h : SimI G ι ok st a w) {v : AV} {cv : Value} (hv : Rep w ok G.B ι v cv) :
    SimI G ι ok (st.withPan v) ⟨a.tmps.push cv, a.defers⟩ w :=
  { h with
    size := by show (a.tmps.push cv).size = st.n + 1; rw [Array.size_push, h.size]
    slots := by
      intro t x hx
      simp only [St.withPan, look_cons] at hx
      split at hx
      · rename_i e; injection hx with hx; subst hx; subst e
        refine ⟨Nat.lt_succ_self _, ?_⟩
        have : (a.tmps.push cv).getD st.n undef = cv := by
          rw [← h.size]; simp [Array.getD_eq_getD_getElem?]
        rw [this]; exact hv
      · obtain ⟨h1, h2⟩ := h.slots t x hx
        refine ⟨Nat.lt_succ_of_lt h1, ?_⟩
        have h1' : t < a.tmps.size := by rw [h.size]; exact h1
        have : (a.tmps.push cv).getD t undef = a.tmps.getD t undef := by
          simp only [Array.getD_eq_getD_getElem?]
          rw [Array.getElem?_push_lt h1', Array.getElem?_eq_getElem h1']
        rw [this]; exact h2 }
theorem look_dropAt : ∀ (n : Nat) (l : List (Nat × AV)) (t : Nat) (x : AV), look (dropAt n l) t = some x → t ≠ n ∧ look l t = some x
  | _, [], _, _, h => by cases h
  | n, (i, y) :: r, t, x, h => by
    unfold dropAt at h
    cases hb : Nat.beq i n <;> rw [hb] at h
    · rw [cond_false, look_cons] at h
      rw [look_cons]
      split at h
      · rename_i e; subst e
        refine ⟨fun e => ?_, by rw [if_pos rfl]; exact h⟩
        subst e; rw [Nat.beq_refl] at hb; cases hb
      · rename_i e
        rw [if_neg e]; exact look_dropAt n r t x h
    · rw [cond_true] at h
      have := look_dropAt n r t x h
      have e := beq_eq hb
      rw [look_cons, if_neg (fun e' => this.1 (e'.symm.trans e))]
      exact this
theorem SimI.popPan {G : Base} {ι : Loci} {ok : Nat → Prop} {st : St} {tmps : Array Value} {cv : Value} {d : List Deferred} {w : World} (h : SimI G ι ok st ⟨tmps.push cv, d⟩ w) :
    SimI G ι ok (st.popPan tmps.size) ⟨tmps, d⟩ w :=
  { h with
    size := rfl
    slots := by
      intro t x hx
      obtain ⟨h1, h2⟩ := look_dropAt _ _ _ _ hx
      obtain ⟨h3, h4⟩ := h.slots t x h2
      have hs : tmps.size + 1 = st.n := by have := h.size; rwa [Array.size_push] at this
      have hlt : t < tmps.size := by omega
      refine ⟨hlt, ?_⟩
      have : (tmps.push cv).getD t undef = tmps.getD t undef := by
        simp only [Array.getD_eq_getD_getElem?]
        rw [Array.getElem?_push_lt hlt, Array.getElem?_eq_getElem hlt]
      rw [this] at h4; exact h4 }
theorem decT_sim {t : Tmpl} {st : St} {y : t.T} (h : decT t st = some y) {G : Base} {a : Act} {w : World} (hs : Sim G st a w) : Sim G (t.enc st.n y) a w := by
  unfold decT at h
  split at h
  · rename_i p hp; injection h with h; subst h
    have := Tmpl.dec_sim (kb := p.2) hp (adapt_sim t hs)
    rw [adapt_n] at this; exact this
  · cases h
theorem decOut_sim {o : XK × Tmpl} {x : X} {st : St} {y : o.2.T} (h : decOut o x st = some y) {G : Base} {ex : Exit} {a : Act} {w : World} (hs : XSim G x st ex a w) :
    XSim G (outX st.n o y) (outSt st.n o y) ex a w := by
  obtain ⟨k, t⟩ := o
  unfold decOut at h
  split at h
  · rename_i hk; simp only at hk; subst hk
    obtain ⟨rfl, hs⟩ := hs
    exact ⟨rfl, decT_sim h hs⟩
  · rename_i i j hk; simp only at hk; subst hk
    obtain ⟨rfl, hs⟩ := hs
    obtain ⟨e, h2⟩ := cond_none h
    have := beq_eq e; subst this
    exact ⟨rfl, decT_sim h2 hs⟩
  · rename_i i j hk; simp only at hk; subst hk
    obtain ⟨rfl, hs⟩ := hs
    obtain ⟨e, h2⟩ := cond_none h
    have := beq_eq e; subst this
    exact ⟨rfl, decT_sim h2 hs⟩
  · rename_i hk; simp only at hk; subst hk
    obtain ⟨rfl, hs⟩ := hs
    exact ⟨rfl, decT_sim h hs⟩
  · rename_i v hk; simp only at hk; subst hk
    obtain ⟨ι, ok, cv, rfl, hv, hs⟩ := hs
    have h' : decP t st.n (st.withPan v) = some y := h
    unfold decP at h'
    split at h'
    · rename_i p hp
      split at h'
      · rename_i z hz
        injection h' with h'; subst h'
        obtain ⟨ι₁, ok₁, hs₁⟩ := adapt_sim t (⟨ι, ok, hs.withPan hv⟩ : Sim G _ _ _)
        have h2 := Tmpl.dec_simI (kb := p.2) hp hs₁
        rw [adapt_n] at h2
        have h2 : SimI G (under p.2 ι₁) ok₁ (t.enc (st.n + 1) p.1) ⟨a.tmps.push cv, a.defers⟩ w := h2
        have h3 := (h2.slots st.n z hz).2
        have e : panAt st.n (t.enc (st.n + 1) p.1) = z := by unfold panAt; rw [hz]
        have ec : (a.tmps.push cv).getD st.n undef = cv := by
          rw [← hs.size]; simp [Array.getD_eq_getD_getElem?]
        refine ⟨under p.2 ι₁, ok₁, cv, rfl, ?_, ?_⟩
        · show Rep w ok₁ G.B _ (panAt st.n (t.enc (st.n + 1) p.1)) cv
          rw [e]
          have h3 : Rep w ok₁ G.B (under p.2 ι₁) z ((a.tmps.push cv).getD st.n undef) := h3
          rw [ec] at h3; exact h3
        · have h4 := h2.popPan
          rw [hs.size] at h4
          exact h4
      · cases h'
    · cases h'
  · cases h
/-- the way out as a pair -/
def outP (n : Nat) : (outs : Outs) → ESum outs → X × St
  | [], y => nomatch y
  | [o], y => (outX n o y, outSt n o y)
  | o :: o' :: r, y => Sum.elim (fun y => (outX n o y, outSt n o y)) (fun y => outP n (o' :: r) y) y
theorem outK_eq {R : Type} (n : Nat) : ∀ (outs : Outs) (y : ESum outs) (K : X → St → Option R), outK n outs y K = K (outP n outs y).1 (outP n outs y).2
  | [], y, _ => nomatch y
  | [_], _, _ => rfl
  | o :: o' :: r, y, K => by
    cases y with
    | inl y => rfl
    | inr y => exact outK_eq n (o' :: r) y K
theorem decOuts_sim : ∀ {outs : Outs} {x : X} {st : St} {y : ESum outs}, decOuts outs x st = some y → ∀ {G : Base} {ex : Exit} {a : Act} {w : World}, XSim G x st ex a w →
    XSim G (outP st.n outs y).1 (outP st.n outs y).2 ex a w
  | [], x, st, y, h, G, ex, a, w, hs => nomatch y
  | [o], x, st, y, h, G, ex, a, w, hs => decOut_sim (o := o) h hs
  | o :: o' :: r, x, st, y, h, G, ex, a, w, hs => by
    unfold decOuts at h
    split at h
    · rename_i z hz; injection h with h; subst h; exact decOut_sim hz hs
    · split at h
      · rename_i z hz; injection h with h; subst h; exact decOuts_sim (outs := o' :: r) hz hs
      · cases h

/-! ### pieces of code by their functions -/
def FnOK (P : Program) (c : Code) (n : Nat) (tin : Tmpl) (outs : Outs) (fn : tin.T → Option (ESum outs)) : Prop :=
  ∀ x y, fn x = some y → Runs P c (tin.enc n x) (outP n outs y).1 (outP n outs y).2
def decAt (n : Nat) (outs : Outs) (x : X) (st : St) : Option (ESum outs) := bif Nat.beq st.n n then decOuts outs x st else none
theorem decAt_ok {n : Nat} {outs : Outs} {x : X} {st : St} {y : ESum outs} (h : decAt n outs x st = some y) : st.n = n ∧ decOuts outs x st = some y := by
  obtain ⟨e, h⟩ := cond_none h
  exact ⟨beq_eq e, h⟩
theorem code_ok {P : Program} {c : Code} {n p : Nat} {tin : Tmpl} {outs : Outs} {fn : tin.T → Option (ESum outs)} {E : EvO (ESum outs)} {L : EvL (ESum outs)} (hE : EOK P E) (hL : LGood P L p c)
    (h : ∀ x, evCode E L p c (tin.enc n x) (decAt n outs) = fn x) : FnOK P c n tin outs fn := by
  intro x y hy
  rw [← h x] at hy
  obtain ⟨ex, st', hr, hk⟩ := evCode_ok hE c p _ _ _ hL hy
  obtain ⟨hn, hd⟩ := decAt_ok hk
  intro G a w Q hs hq
  refine hr G a w Q hs (fun ex' a' w' hx => hq ex' a' w' ?_)
  have := decOuts_sim hd hx
  rw [hn] at this; exact this
/-- a piece of code, told by a function of data -/
def lrun {R : Type} (n : Nat) (tin : Tmpl) (outs : Outs) (fn : tin.T → Option (ESum outs)) (st : St) (K : X → St → Option R) : Option R :=
  bif Nat.beq st.n n then (match decT tin st with
    | some x => (fn x).bind fun y => outK n outs y K
    | none => none) else none
theorem lrun_ok {R : Type} {P : Program} {c : Code} {n : Nat} {tin : Tmpl} {outs : Outs} {fn : tin.T → Option (ESum outs)} (h : FnOK P c n tin outs fn) : LOK (R := R) P (lrun n tin outs fn) c := by
  intro st K r hr
  obtain ⟨e, hr⟩ := cond_none hr
  have e := beq_eq e
  split at hr
  · rename_i x hx
    cases hf : fn x with
    | none => rw [hf] at hr; cases hr
    | some y =>
      rw [hf] at hr
      have hr : outK n outs y K = some r := hr
      rw [outK_eq] at hr
      refine ⟨_, _, fun G a w Q hs hq => ?_, hr⟩
      refine h x y hf G a w Q ?_ hq
      have := decT_sim hx hs
      rw [e] at this; exact this
  · cases hr

/-! ### loops -/
def loopN {A B : Type} (step : A → Option (A ⊕ B)) : Nat → A → Option B
  | 0, _ => none
  | k + 1, x => match step x with
    | none => none
    | some (.inl x') => loopN step k x'
    | some (.inr y) => some y
def decStep (n : Nat) (tin : Tmpl) (outs : Outs) (x : X) (st : St) : Option (tin.T ⊕ ESum outs) :=
  bif Nat.beq st.n n then (match x with
    | .normal => match decT tin st with | some x => some (.inl x) | none => none
    | x => match decOuts outs x st with | some y => some (.inr y) | none => none) else none
theorem loop_ok {P : Program} {c : Code} {n p : Nat} {tin : Tmpl} {outs : Outs} {step : tin.T → Option (tin.T ⊕ ESum outs)} {E : EvO (tin.T ⊕ ESum outs)} {L : EvL (tin.T ⊕ ESum outs)}
    (hE : EOK P E) (hL : LGood P L p c) (h : ∀ x, evCode E L p c (tin.enc n x) (decStep n tin outs) = step x) (k : Nat) : FnOK P (.loop c) n tin outs (loopN step k) := by
  have key : ∀ k x y, loopN step k x = some y → ∀ G a w Q, Sim G (tin.enc n x) a w → (∀ ex a' w', XSim G (outP n outs y).1 (outP n outs y).2 ex a' w' → Q ex a' w') → Code.rounds P c Q k a w := by
    intro k
    induction k with
    | zero => intro x y hy; cases hy
    | succ k ih =>
      intro x y hy G a w Q hs hq
      rw [rounds_succ]
      unfold loopN at hy
      have hx := h x
      split at hy
      · cases hy
      · rename_i x' hst
        rw [hst] at hx
        obtain ⟨ex, st', hr, hk⟩ := evCode_ok hE c p _ _ _ hL hx
        obtain ⟨e, hk⟩ := cond_none hk
        have e := beq_eq e
        refine hr G a w _ hs (fun ex' a' w' hx' => ?_)
        split at hk
        · split at hk
          · rename_i z hz
            injection hk with hk; injection hk with hk; subst hk
            obtain ⟨rfl, hs'⟩ := hx'
            have := decT_sim hz hs'
            rw [e] at this
            exact ih _ y hy G a' w' Q this hq
          · cases hk
        · split at hk
          · injection hk with hk; cases hk
          · cases hk
      · rename_i y' hst
        injection hy with hy; subst hy
        rw [hst] at hx
        obtain ⟨ex, st', hr, hk⟩ := evCode_ok hE c p _ _ _ hL hx
        obtain ⟨e, hk⟩ := cond_none hk
        have e := beq_eq e
        refine hr G a w _ hs (fun ex' a' w' hx' => ?_)
        split at hk
        · split at hk
          · injection hk with hk; cases hk
          · cases hk
        · rename_i hne
          split at hk
          · rename_i z hz
            injection hk with hk; injection hk with hk; subst hk
            have h2 := decOuts_sim hz hx'
            rw [e] at h2
            have h3 := hq ex' a' w' h2
            have hn : ex' ≠ .normal := by
              intro hn; subst hn
              cases ex with
              | normal => exact hne rfl
              | exit i => exact absurd hx'.1 (by simp)
              | goto i => exact absurd hx'.1 (by simp)
              | ret => exact absurd hx'.1 (by simp)
              | pan v => obtain ⟨_, _, _, hh, _⟩ := hx'; cases hh
            cases ex' with
            | normal => exact absurd rfl hn
            | _ => exact h3
          · cases hk
  intro x y hy G a w Q hs hq
  exact wp_loop_rounds k (key k x y hy G a w Q hs hq)
end Go.Ev

