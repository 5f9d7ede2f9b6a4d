/- Written by a program of this session (wip/tools/hp.py, pack.py) and by this session: what the law LineBack reaches, function by function: a Lean function with the same answers, and the proof that the machine's call gives them. No condition but the ones the theorems state. -/
import Derived.ArgAppend
import Derived.Below
import Derived.BigQuiet
import Derived.ChangeArms
import Derived.ChangeOld
import Derived.Deep.AppendLies
import Derived.Deep.CutBlock
import Derived.Deep.DeepCutAuto
import Derived.Deep.Draws
import Derived.Deep.LoopGhost
import Derived.Deep.OwnRows
import Derived.Deep.QuietTactic
import Derived.Deep.RegionHeld3
import Derived.Deep.Slices
import Derived.KernelRfl
import Derived.Laws.BitsLemmas
import Derived.Laws.BytesArg
import Derived.Laws.IdiomCopy
import Derived.Laws.MakeOwn
import Derived.Laws.OwnMore
import Derived.Laws.RangeAny
import Derived.Laws.RangeString
import Derived.Laws.Rows
import Derived.Laws.Slices
import Derived.Lib.AppendStr
import Derived.Lib.AppendZerosOnto
import Derived.Lib.ConvBytes
import Derived.Lib.SliceRun
import Derived.Lib.Walk
import Derived.Maps.AppendAt
import Derived.OpenShut
import Derived.OrdersHeld
import Derived.OwnWalk
import Derived.ProofKit
import Derived.RowKit
import Derived.RowKit3
import Derived.ShutString
import Derived.SizedLaws
import Derived.Tactics
import Derived.Test.YtemoocoedibbpabProg
import Derived.WalkKit
import Derived.WideLaws
import Derived.WideShapes
import Derived.Test.YtemoocoedibbpabQLineBack0
namespace Go.Proofs.Ytemoocoedibbpab.X
open Go.RowKit Go.Proofs.YtemoocoedibbpabW.PrintWords Go.Proofs.YtemoocoedibbpabW.PrintLast Go.Proofs.YtemoocoedibbpabW.PrintMore
attribute [local go_sem] max2_int min2_int max_two min_two max_three min_three max_four min_four
set_option linter.unusedVariables false
set_option linter.unusedSimpArgs false

def errW : Option Int → Value
  | none => .nilIface
  | some c => .iface 0 (.int .i64 c)
theorem errW_none : errW none = .nilIface := rfl
theorem errW_some (c : Int) : errW (some c) = .iface 0 (.int .i64 c) := rfl


end Go.Proofs.Ytemoocoedibbpab.X

namespace Go.Proofs.Ytemoocoedibbpab.X
open Go.RowKit Go.Proofs.YtemoocoedibbpabW.PrintWords Go.Proofs.YtemoocoedibbpabW.PrintLast Go.Proofs.YtemoocoedibbpabW.PrintMore
attribute [local go_sem] max2_int min2_int max_two min_two max_three min_three max_four min_four
set_option linter.unusedVariables false
set_option linter.unusedSimpArgs false
theorem a0 {p : Prop} (h : p) : Aside0 p := ⟨h⟩
/-- Which have come up, as bits. -/
def ba (n m : Nat) : Array Bool := ((List.range n).map fun j => m.testBit j).toArray
theorem repsJ (k : IntKind) {w : World} {base : Nat} {ok : Nat → Prop} : ∀ xs : List Int, Reps (Kd.M (Kd.int k) w base ok) 1 xs (xs.map (Value.int k)) := fun xs =>
  ⟨by simp, fun j p h => by
    obtain ⟨hj, rfl⟩ := List.getElem?_eq_some_iff.1 h
    show _ = _
    rw [Nat.mul_one, List.drop_eq_getElem_cons (by simpa using hj)]
    simp⟩
section
variable {P : Program} {ops : Array Oper} {Q : Exit → Act → World → Prop} {S : World → Prop} {ds : List Nat} {md : Region.Mode}
theorem pS (i : Nat) (N : Nat) {oi : Oper} {v : Value} {fuel : Nat} {l : Array Bool} {a : Act} {w : World} {T : Bool × List (List Nat × List Nat)} (l' : Array Bool) (hT : Aside0 (rtab md ops = T)) (h : anyT T l.toList l'.toList i = true) (hi : ops[i]? = some oi) (hN : oi.dst = some N)
    {a' : Act} (hQ : ∀ c a w, Q (.panic c) (a.put oi.dst v) w → Q (.panic c) a w) (hw : Region.wanted oi (yielded ops a.tmps) = true)
    (hy : ∀ w', (execOp a.eval oi).run P w' = .ok (.value v) w') (ha : a.put (some N) v = a')
    (hk : wpAnyLast P md ops Q S ds fuel l' a' w) : wpAnyLast P md ops Q S ds (fuel + 1) l a w := pure_ l' hi hN (any_of hT.out h) hQ (Or.inl ⟨hw, hy⟩) ha hk
theorem map_list {xs : Array Operand} {a : Act} {args : Array Value} (h : xs.toList.map a.eval = args.toList) : xs.map a.eval = args := by
  cases xs
  cases args
  simpa using h
theorem gL {rest : List Oper} {oi : Oper} {a : Act} {w : World} (N : Option Tmp) {f : FuncId} {fn : Func} {xs : Array Operand} {ts : Array TypeId} (hf : P.funcs[f]? = some fn) (hname : (fn.name == "runtime.NumGoroutine") = false) (args : Array Value)
    (hd : oi.dst = N) (hg : oi.guard = none) (hop : oi.op = .call { callee := .value (.func f), args := xs, argTypes := ts }) (hb : fn.body.isSome = true) (hargs : xs.toList.map a.eval = args.toList)
    (h : Calls P f args w fun e w' => ∃ v, e = .returned v ∧ wpList P ops Q rest (a.put N v) w') : wpList P ops Q (oi :: rest) a w := goesL_ N hd hg hf hname hb args hop (map_list hargs) h
theorem gR {oi : Oper} {N : Option Tmp} {a : Act} {w : World} {K : Act → World → Prop} {f : FuncId} {fn : Func} {xs : Array Operand} {ts : Array TypeId} (hf : P.funcs[f]? = some fn) (hname : (fn.name == "runtime.NumGoroutine") = false) (args : Array Value)
    (hw : Region.wanted oi (yielded ops a.tmps) = true) (hN : oi.dst = N) (hop : oi.op = .call { callee := .value (.func f), args := xs, argTypes := ts }) (hb : fn.body.isSome = true) (hargs : xs.toList.map a.eval = args.toList)
    (h : Calls P f args w fun e w' => ∃ v, e = .returned v ∧ K (a.put N v) w') : if Region.wanted oi (yielded ops a.tmps) = true then Oper.wp P oi a w K Q else K (a.put N undef) w := goes_ hf hname hb args hw hN hop (map_list hargs) h
theorem bB {w w1 : World} {g : Nat} {o : Obj} (hb : Below w.heap.size w w1) (h : w.heap[g]? = some o) : w1.heap[g]? = some o := blk_below h hb
theorem bR {α : Type} {d : Kd α} {e : Nat} {w w1 : World} {base : Nat} {ok : Nat → Prop} {v : Value} {xs : List α} (hb : Below w.heap.size w w1) (h : d.R e w base ok v xs) : d.R e w1 base ok v xs := Kd.R_below h hb
theorem bV {α : Type} {d : Kd α} {e : Nat} {w w1 : World} {base : Nat} {ok : Nat → Prop} {v : Value} {xs : List α} (hb : Below w.heap.size w w1) (h : d.V e w base ok v xs) : d.V e w1 base ok v xs := Kd.V_below h hb
/-- What is written into a block of two or three cells is read there. -/
theorem c2 {w : World} {g : Nat} {t : TypeId} {x y : Value} (h : w.heap[g]? = some (.cells #[x, y] t (0, 0))) : w.cell? ⟨g, 0, none⟩ = some x ∧ w.cell? ⟨g, 1, none⟩ = some y ∧ w.frozen? ⟨g, 0, none⟩ = false ∧ w.frozen? ⟨g, 1, none⟩ = false := ⟨(blk_cell h 0).trans rfl, (blk_cell h 1).trans rfl, blk_frozen h 0, blk_frozen h 1⟩
end
end Go.Proofs.Ytemoocoedibbpab.X

namespace Go.Proofs.Ytemoocoedibbpab.X
open Go.RowKit Go.Proofs.YtemoocoedibbpabW.PrintWords Go.Proofs.YtemoocoedibbpabW.PrintLast Go.Proofs.YtemoocoedibbpabW.PrintMore
attribute [local go_sem] max2_int min2_int max_two min_two max_three min_three max_four min_four
set_option linter.unusedVariables false
set_option linter.unusedSimpArgs false

/-! #### struct type 47 -/
structure S47 where
  f0 : Int
  f1 : Int
def z47 : S47 := ⟨(0 : Int), (0 : Int)⟩
def k47 : Kd S47 := Kd.iso (Kd.pair (Kd.int .i64) (Kd.int .i64)) (fun x : S47 => (x.f0, x.f1))
theorem k47_heap : Kd.Heap k47 := Kd.heap_iso _ (Kd.heap_pair (Kd.heap_int .i64) (Kd.heap_int .i64))
theorem k47_open {w : World} {x : S47} {cs : List Value} (h : k47.K w x cs) : cs = [.int .i64 x.f0, .int .i64 x.f1] := by
  obtain ⟨_, _, rfl, rfl, rfl⟩ := h
  exact rfl
theorem k47_openM {w : World} {base : Nat} {ok : Nat → Prop} {x : S47} {cs : List Value} (h : k47.M w base ok x cs) : cs = [.int .i64 x.f0, .int .i64 x.f1] := by
  obtain ⟨_, _, rfl, rfl, rfl⟩ := h
  exact rfl
theorem k47_mk (w : World) (x : S47)  : k47.K w x [.int .i64 x.f0, .int .i64 x.f1] := ⟨[.int .i64 x.f0], [.int .i64 x.f1], rfl, rfl, rfl⟩
theorem k47_mkM (w : World) (base : Nat) (ok : Nat → Prop) (x : S47)  : k47.M w base ok x [.int .i64 x.f0, .int .i64 x.f1] := ⟨[.int .i64 x.f0], [.int .i64 x.f1], rfl, rfl, rfl⟩
theorem k47_mkF (W : World) (ok : Nat → Prop) (x : S47) : Kd.FK k47 W ok x [.int .i64 x.f0, .int .i64 x.f1] := fun W2 _ => k47_mk W2 x
def rd_T47 (xs : List S47) (i : Int) : S47 := xs.getD i.toNat z47
theorem at_T47 {w : World} {A : Option Addr} {n : Nat} {xs : List S47} (h : Kd.C k47 w A n xs) (i : Int) (h0 : 0 ≤ i) (h1 : i < n) : ∃ ad , A = some ad ∧ w.cell? (ad.add (i.toNat * 2)) = some (.int .i64 (rd_T47 xs i).f0) ∧ w.cell? ⟨(ad.add (i.toNat * 2)).block, (ad.add (i.toNat * 2)).off + 1, none⟩ = some (.int .i64 (rd_T47 xs i).f1) := by
  obtain ⟨ad, c, e, _, hK, hc0⟩ := Kd.C_get h z47 i h0 h1
  have hc : ∀ j u, c[j]? = some u → w.cell? (ad.add (i.toNat * 2 + j)) = some u := hc0
  obtain rfl := k47_open hK
  exact ⟨ad, e, hc 0 _ rfl, by rw [← add_field _ _ 1 (by omega)]; exact hc 1 _ rfl⟩

def rd_L11 (xs : List (List S47)) (i : Int) : (List S47) := xs.getD i.toNat ([] : List S47)
theorem at_L11 {w : World} {A : Option Addr} {n : Nat} {xs : List (List S47)} (h : Kd.C (Kd.slice 47 k47) w A n xs) (i : Int) (h0 : 0 ≤ i) (h1 : i < n) : ∃ ad A0 c0, A = some ad ∧ w.cell? (ad.add i.toNat) = some (.slice A0 (rd_L11 xs i).length c0) ∧ (rd_L11 xs i).length ≤ c0 ∧ k47.C w A0 (rd_L11 xs i).length (rd_L11 xs i) := by
  obtain ⟨ad, c, e, _, hK, hc0⟩ := Kd.C_get h ([] : List S47) i h0 h1
  have hc : ∀ j u, c[j]? = some u → w.cell? (ad.add (i.toNat * 1 + j)) = some u := hc0
  obtain ⟨A0, c0, rfl, l0, g0⟩ := hK
  exact ⟨ad, A0, c0, e, by have hq := hc 0 _ rfl; rwa [Nat.mul_one, Nat.add_zero] at hq, l0, g0⟩


end Go.Proofs.Ytemoocoedibbpab.X

namespace Go.Proofs.Ytemoocoedibbpab.X
open Go.RowKit Go.Proofs.YtemoocoedibbpabW.PrintWords Go.Proofs.YtemoocoedibbpabW.PrintLast Go.Proofs.YtemoocoedibbpabW.PrintMore
attribute [local go_sem] max2_int min2_int max_two min_two max_three min_three max_four min_four
set_option linter.unusedVariables false
set_option linter.unusedSimpArgs false

/-! #### struct type 24 -/
structure S24 where
  f0 : (List S47)
  f1 : Int
def z24 : S24 := ⟨([] : List S47), (0 : Int)⟩
def k24 : Kd S24 := Kd.iso (Kd.pair (Kd.slice 47 k47) (Kd.int .i64)) (fun x : S24 => (x.f0, x.f1))
theorem k24_heap : Kd.Heap k24 := Kd.heap_iso _ (Kd.heap_pair (Kd.heap_slice 47 k47_heap) (Kd.heap_int .i64))
theorem k24_open {w : World} {x : S24} {cs : List Value} (h : k24.K w x cs) : ∃ A0 c0, cs = [.slice A0 x.f0.length c0, .int .i64 x.f1] ∧ x.f0.length ≤ c0 ∧ k47.C w A0 x.f0.length x.f0 := by
  obtain ⟨_, _, rfl, ⟨A0, c0, rfl, l0, g0⟩, rfl⟩ := h
  exact ⟨A0, c0, rfl, l0, g0⟩
theorem k24_openM {w : World} {base : Nat} {ok : Nat → Prop} {x : S24} {cs : List Value} (h : k24.M w base ok x cs) : ∃ v0, cs = [v0, .int .i64 x.f1] ∧ k47.R 47 w base ok v0 x.f0 := by
  obtain ⟨_, _, rfl, ⟨v0, rfl, g0⟩, rfl⟩ := h
  exact ⟨v0, rfl, g0⟩
theorem k24_mk (w : World) (x : S24) {A0 : Option Addr} {c0 : Nat} (l0 : x.f0.length ≤ c0) (g0 : k47.C w A0 x.f0.length x.f0) : k24.K w x [.slice A0 x.f0.length c0, .int .i64 x.f1] := ⟨[.slice A0 x.f0.length c0], [.int .i64 x.f1], rfl, ⟨A0, c0, rfl, l0, g0⟩, rfl⟩
theorem k24_mkM (w : World) (base : Nat) (ok : Nat → Prop) (x : S24) {v0 : Value} (g0 : k47.R 47 w base ok v0 x.f0) : k24.M w base ok x [v0, .int .i64 x.f1] := ⟨[v0], [.int .i64 x.f1], rfl, ⟨v0, rfl, g0⟩, rfl⟩
theorem k24_openF {W : World} {ok : Nat → Prop} {x : S24} {cs : List Value} (h : Kd.FK k24 W ok x cs) : ∃ A0 c0, cs = [.slice A0 x.f0.length c0, .int .i64 x.f1] ∧ x.f0.length ≤ c0 ∧ Kd.F k47 W ok A0 x.f0.length x.f0 := by
  obtain ⟨A0, c0, rfl, l0, _⟩ := k24_open (Kd.FK_now h)
  exact ⟨A0, c0, rfl, l0, (fun W' hW => by obtain ⟨A0_, c0_, he, l0_, g0_⟩ := k24_open (h W' hW); injection (Option.some.inj (show some (Value.slice A0 x.f0.length c0) = some (Value.slice A0_ x.f0.length c0_) from congrArg (fun l => l[0]?) he)) with ha_ _ _; rw [ha_]; exact g0_)⟩
theorem k24_mkF (W : World) (ok : Nat → Prop) (x : S24) {A0 : Option Addr} {c0 : Nat} (l0 : x.f0.length ≤ c0) (g0 : Kd.F k47 W ok A0 x.f0.length x.f0) : Kd.FK k24 W ok x [.slice A0 x.f0.length c0, .int .i64 x.f1] := fun W2 hW => k24_mk W2 x l0 (g0 W2 hW)
def rd_T24 (xs : List S24) (i : Int) : S24 := xs.getD i.toNat z24
theorem at_T24 {w : World} {A : Option Addr} {n : Nat} {xs : List S24} (h : Kd.C k24 w A n xs) (i : Int) (h0 : 0 ≤ i) (h1 : i < n) : ∃ ad A0 c0, A = some ad ∧ w.cell? (ad.add (i.toNat * 2)) = some (.slice A0 (rd_T24 xs i).f0.length c0) ∧ w.cell? ⟨(ad.add (i.toNat * 2)).block, (ad.add (i.toNat * 2)).off + 1, none⟩ = some (.int .i64 (rd_T24 xs i).f1) ∧ (rd_T24 xs i).f0.length ≤ c0 ∧ k47.C w A0 (rd_T24 xs i).f0.length (rd_T24 xs i).f0 := by
  obtain ⟨ad, c, e, _, hK, hc0⟩ := Kd.C_get h z24 i h0 h1
  have hc : ∀ j u, c[j]? = some u → w.cell? (ad.add (i.toNat * 2 + j)) = some u := hc0
  obtain ⟨A0, c0, rfl, l0, g0⟩ := k24_open hK
  exact ⟨ad, A0, c0, e, hc 0 _ rfl, by rw [← add_field _ _ 1 (by omega)]; exact hc 1 _ rfl, l0, g0⟩

def rd_L14 (xs : List (List (List S47))) (i : Int) : (List (List S47)) := xs.getD i.toNat ([] : List (List S47))
theorem at_L14 {w : World} {A : Option Addr} {n : Nat} {xs : List (List (List S47))} (h : Kd.C (Kd.slice 22 (Kd.slice 47 k47)) w A n xs) (i : Int) (h0 : 0 ≤ i) (h1 : i < n) : ∃ ad A0 c0, A = some ad ∧ w.cell? (ad.add i.toNat) = some (.slice A0 (rd_L14 xs i).length c0) ∧ (rd_L14 xs i).length ≤ c0 ∧ (Kd.slice 47 k47).C w A0 (rd_L14 xs i).length (rd_L14 xs i) := by
  obtain ⟨ad, c, e, _, hK, hc0⟩ := Kd.C_get h ([] : List (List S47)) i h0 h1
  have hc : ∀ j u, c[j]? = some u → w.cell? (ad.add (i.toNat * 1 + j)) = some u := hc0
  obtain ⟨A0, c0, rfl, l0, g0⟩ := hK
  exact ⟨ad, A0, c0, e, by have hq := hc 0 _ rfl; rwa [Nat.mul_one, Nat.add_zero] at hq, l0, g0⟩

def rd_L15 (xs : List (List Bool)) (i : Int) : (List Bool) := xs.getD i.toNat ([] : List Bool)
theorem at_L15 {w : World} {A : Option Addr} {n : Nat} {xs : List (List Bool)} (h : Kd.C (Kd.slice 4 Kd.bool) w A n xs) (i : Int) (h0 : 0 ≤ i) (h1 : i < n) : ∃ ad A0 c0, A = some ad ∧ w.cell? (ad.add i.toNat) = some (.slice A0 (rd_L15 xs i).length c0) ∧ (rd_L15 xs i).length ≤ c0 ∧ Kd.bool.C w A0 (rd_L15 xs i).length (rd_L15 xs i) := by
  obtain ⟨ad, c, e, _, hK, hc0⟩ := Kd.C_get h ([] : List Bool) i h0 h1
  have hc : ∀ j u, c[j]? = some u → w.cell? (ad.add (i.toNat * 1 + j)) = some u := hc0
  obtain ⟨A0, c0, rfl, l0, g0⟩ := hK
  exact ⟨ad, A0, c0, e, by have hq := hc 0 _ rfl; rwa [Nat.mul_one, Nat.add_zero] at hq, l0, g0⟩


end Go.Proofs.Ytemoocoedibbpab.X

namespace Go.Proofs.Ytemoocoedibbpab.X
open Go.RowKit Go.Proofs.YtemoocoedibbpabW.PrintWords Go.Proofs.YtemoocoedibbpabW.PrintLast Go.Proofs.YtemoocoedibbpabW.PrintMore
attribute [local go_sem] max2_int min2_int max_two min_two max_three min_three max_four min_four
set_option linter.unusedVariables false
set_option linter.unusedSimpArgs false

/-! #### struct type 53 -/
structure S53 where
  f0 : Int
  f1 : Int
  f2 : Int
def z53 : S53 := ⟨(0 : Int), (0 : Int), (0 : Int)⟩
def k53 : Kd S53 := Kd.iso (Kd.pair (Kd.int .i64) (Kd.pair (Kd.int .i64) (Kd.int .i64))) (fun x : S53 => (x.f0, x.f1, x.f2))
theorem k53_heap : Kd.Heap k53 := Kd.heap_iso _ (Kd.heap_pair (Kd.heap_int .i64) (Kd.heap_pair (Kd.heap_int .i64) (Kd.heap_int .i64)))
theorem k53_open {w : World} {x : S53} {cs : List Value} (h : k53.K w x cs) : cs = [.int .i64 x.f0, .int .i64 x.f1, .int .i64 x.f2] := by
  obtain ⟨_, _, rfl, rfl, ⟨_, _, rfl, rfl, rfl⟩⟩ := h
  exact rfl
theorem k53_openM {w : World} {base : Nat} {ok : Nat → Prop} {x : S53} {cs : List Value} (h : k53.M w base ok x cs) : cs = [.int .i64 x.f0, .int .i64 x.f1, .int .i64 x.f2] := by
  obtain ⟨_, _, rfl, rfl, ⟨_, _, rfl, rfl, rfl⟩⟩ := h
  exact rfl
theorem k53_mk (w : World) (x : S53)  : k53.K w x [.int .i64 x.f0, .int .i64 x.f1, .int .i64 x.f2] := ⟨[.int .i64 x.f0], [.int .i64 x.f1, .int .i64 x.f2], rfl, rfl, ⟨[.int .i64 x.f1], [.int .i64 x.f2], rfl, rfl, rfl⟩⟩
theorem k53_mkM (w : World) (base : Nat) (ok : Nat → Prop) (x : S53)  : k53.M w base ok x [.int .i64 x.f0, .int .i64 x.f1, .int .i64 x.f2] := ⟨[.int .i64 x.f0], [.int .i64 x.f1, .int .i64 x.f2], rfl, rfl, ⟨[.int .i64 x.f1], [.int .i64 x.f2], rfl, rfl, rfl⟩⟩
theorem k53_mkF (W : World) (ok : Nat → Prop) (x : S53) : Kd.FK k53 W ok x [.int .i64 x.f0, .int .i64 x.f1, .int .i64 x.f2] := fun W2 _ => k53_mk W2 x
def rd_T53 (xs : List S53) (i : Int) : S53 := xs.getD i.toNat z53
theorem at_T53 {w : World} {A : Option Addr} {n : Nat} {xs : List S53} (h : Kd.C k53 w A n xs) (i : Int) (h0 : 0 ≤ i) (h1 : i < n) : ∃ ad , A = some ad ∧ w.cell? (ad.add (i.toNat * 3)) = some (.int .i64 (rd_T53 xs i).f0) ∧ w.cell? ⟨(ad.add (i.toNat * 3)).block, (ad.add (i.toNat * 3)).off + 1, none⟩ = some (.int .i64 (rd_T53 xs i).f1) ∧ w.cell? ⟨(ad.add (i.toNat * 3)).block, (ad.add (i.toNat * 3)).off + 2, none⟩ = some (.int .i64 (rd_T53 xs i).f2) := by
  obtain ⟨ad, c, e, _, hK, hc0⟩ := Kd.C_get h z53 i h0 h1
  have hc : ∀ j u, c[j]? = some u → w.cell? (ad.add (i.toNat * 3 + j)) = some u := hc0
  obtain rfl := k53_open hK
  exact ⟨ad, e, hc 0 _ rfl, by rw [← add_field _ _ 1 (by omega)]; exact hc 1 _ rfl, by rw [← add_field _ _ 2 (by omega)]; exact hc 2 _ rfl⟩


end Go.Proofs.Ytemoocoedibbpab.X

namespace Go.Proofs.Ytemoocoedibbpab.X
open Go.RowKit Go.Proofs.YtemoocoedibbpabW.PrintWords Go.Proofs.YtemoocoedibbpabW.PrintLast Go.Proofs.YtemoocoedibbpabW.PrintMore
attribute [local go_sem] max2_int min2_int max_two min_two max_three min_three max_four min_four
set_option linter.unusedVariables false
set_option linter.unusedSimpArgs false

/-! ### dactylref02_Right: function 132 -/
def dactylref02_Right.f (a0 : Int) : Option (Bool) := if a0 ≥ 0 then (if a0 < 55296 then (some true) else (if a0 > 57343 then (if a0 ≤ 1114111 then (some true) else (if a0 ≥ 1114240 then (some (decide (a0 ≤ 1114367))) else (some false))) else (if a0 ≥ 1114240 then (some (decide (a0 ≤ 1114367))) else (some false)))) else (if a0 > 57343 then (if a0 ≤ 1114111 then (some true) else (if a0 ≥ 1114240 then (some (decide (a0 ≤ 1114367))) else (some false))) else (if a0 ≥ 1114240 then (some (decide (a0 ≤ 1114367))) else (some false)))
set_option maxHeartbeats 8000000 in
set_option maxRecDepth 100000 in
theorem dactylref02_Right.calls (a0 : Int) (r : Bool) (w : World) (h : dactylref02_Right.f a0 = some r) :
  Calls Try.prog 132 #[.int .i64 a0] w fun e w' => e = .returned (.bool r) ∧ Drawn0 w w' := by
 have H : (if a0 ≥ 0 then (if a0 < 55296 then (some true) else (if a0 > 57343 then (if a0 ≤ 1114111 then (some true) else (if a0 ≥ 1114240 then (some (decide (a0 ≤ 1114367))) else (some false))) else (if a0 ≥ 1114240 then (some (decide (a0 ≤ 1114367))) else (some false)))) else (if a0 > 57343 then (if a0 ≤ 1114111 then (some true) else (if a0 ≥ 1114240 then (some (decide (a0 ≤ 1114367))) else (some false))) else (if a0 ≥ 1114240 then (some (decide (a0 ≤ 1114367))) else (some false)))) = some r := h
 clear h
 by_cases c2 : a0 ≥ 0
 ·rw [if_pos c2] at H
  have c2b0 : decide (0 ≤ a0) = true := decide_eq_true c2
  clear c2
  by_cases c3 : a0 < 55296
  ·rw [if_pos c3] at H
   have c3b0 : decide (a0 < 55296) = true := decide_eq_true c3
   clear c3
   obtain rfl := Option.some.inj H
   go_enter Try.func132, Try.ntmps132
   go_wp2
   go_ret
   exact ⟨by first | rfl | (simp; done) | (simp [*]; done), by repeat (first | exact Drawn0.refl _ | apply Drawn0.step)⟩
  ·rw [if_neg c3] at H
   have c3b0 : decide (a0 < 55296) = false := decide_eq_false c3
   clear c3
   by_cases c4 : a0 > 57343
   ·rw [if_pos c4] at H
    have c4b0 : decide (57343 < a0) = true := decide_eq_true c4
    clear c4
    by_cases c5 : a0 ≤ 1114111
    ·rw [if_pos c5] at H
     have c5b0 : decide (a0 ≤ 1114111) = true := decide_eq_true c5
     clear c5
     obtain rfl := Option.some.inj H
     go_enter Try.func132, Try.ntmps132
     go_wp2
     go_ret
     exact ⟨by first | rfl | (simp; done) | (simp [*]; done), by repeat (first | exact Drawn0.refl _ | apply Drawn0.step)⟩
    ·rw [if_neg c5] at H
     have c5b0 : decide (a0 ≤ 1114111) = false := decide_eq_false c5
     clear c5
     by_cases c6 : a0 ≥ 1114240
     ·rw [if_pos c6] at H
      have c6b0 : decide (1114240 ≤ a0) = true := decide_eq_true c6
      clear c6
      obtain rfl := Option.some.inj H
      go_enter Try.func132, Try.ntmps132
      go_wp2
      go_ret
      exact ⟨by first | rfl | (simp; done) | (simp [*]; done), by repeat (first | exact Drawn0.refl _ | apply Drawn0.step)⟩
     ·rw [if_neg c6] at H
      have c6b0 : decide (1114240 ≤ a0) = false := decide_eq_false c6
      clear c6
      obtain rfl := Option.some.inj H
      go_enter Try.func132, Try.ntmps132
      go_wp2
      go_ret
      exact ⟨by first | rfl | (simp; done) | (simp [*]; done), by repeat (first | exact Drawn0.refl _ | apply Drawn0.step)⟩
   ·rw [if_neg c4] at H
    have c4b0 : decide (57343 < a0) = false := decide_eq_false c4
    clear c4
    by_cases c7 : a0 ≥ 1114240
    ·rw [if_pos c7] at H
     have c7b0 : decide (1114240 ≤ a0) = true := decide_eq_true c7
     clear c7
     obtain rfl := Option.some.inj H
     go_enter Try.func132, Try.ntmps132
     go_wp2
     go_ret
     exact ⟨by first | rfl | (simp; done) | (simp [*]; done), by repeat (first | exact Drawn0.refl _ | apply Drawn0.step)⟩
    ·rw [if_neg c7] at H
     have c7b0 : decide (1114240 ≤ a0) = false := decide_eq_false c7
     clear c7
     obtain rfl := Option.some.inj H
     go_enter Try.func132, Try.ntmps132
     go_wp2
     go_ret
     exact ⟨by first | rfl | (simp; done) | (simp [*]; done), by repeat (first | exact Drawn0.refl _ | apply Drawn0.step)⟩
 ·rw [if_neg c2] at H
  have c2b0 : decide (0 ≤ a0) = false := decide_eq_false c2
  clear c2
  by_cases c8 : a0 > 57343
  ·rw [if_pos c8] at H
   have c8b0 : decide (57343 < a0) = true := decide_eq_true c8
   clear c8
   by_cases c9 : a0 ≤ 1114111
   ·rw [if_pos c9] at H
    have c9b0 : decide (a0 ≤ 1114111) = true := decide_eq_true c9
    clear c9
    obtain rfl := Option.some.inj H
    go_enter Try.func132, Try.ntmps132
    go_wp2
    go_ret
    exact ⟨by first | rfl | (simp; done) | (simp [*]; done), by repeat (first | exact Drawn0.refl _ | apply Drawn0.step)⟩
   ·rw [if_neg c9] at H
    have c9b0 : decide (a0 ≤ 1114111) = false := decide_eq_false c9
    clear c9
    by_cases c10 : a0 ≥ 1114240
    ·rw [if_pos c10] at H
     have c10b0 : decide (1114240 ≤ a0) = true := decide_eq_true c10
     clear c10
     obtain rfl := Option.some.inj H
     go_enter Try.func132, Try.ntmps132
     go_wp2
     go_ret
     exact ⟨by first | rfl | (simp; done) | (simp [*]; done), by repeat (first | exact Drawn0.refl _ | apply Drawn0.step)⟩
    ·rw [if_neg c10] at H
     have c10b0 : decide (1114240 ≤ a0) = false := decide_eq_false c10
     clear c10
     obtain rfl := Option.some.inj H
     go_enter Try.func132, Try.ntmps132
     go_wp2
     go_ret
     exact ⟨by first | rfl | (simp; done) | (simp [*]; done), by repeat (first | exact Drawn0.refl _ | apply Drawn0.step)⟩
  ·rw [if_neg c8] at H
   have c8b0 : decide (57343 < a0) = false := decide_eq_false c8
   clear c8
   by_cases c11 : a0 ≥ 1114240
   ·rw [if_pos c11] at H
    have c11b0 : decide (1114240 ≤ a0) = true := decide_eq_true c11
    clear c11
    obtain rfl := Option.some.inj H
    go_enter Try.func132, Try.ntmps132
    go_wp2
    go_ret
    exact ⟨by first | rfl | (simp; done) | (simp [*]; done), by repeat (first | exact Drawn0.refl _ | apply Drawn0.step)⟩
   ·rw [if_neg c11] at H
    have c11b0 : decide (1114240 ≤ a0) = false := decide_eq_false c11
    clear c11
    obtain rfl := Option.some.inj H
    go_enter Try.func132, Try.ntmps132
    go_wp2
    go_ret
    exact ⟨by first | rfl | (simp; done) | (simp [*]; done), by repeat (first | exact Drawn0.refl _ | apply Drawn0.step)⟩

end Go.Proofs.Ytemoocoedibbpab.X

namespace Go.Proofs.Ytemoocoedibbpab.X
open Go.RowKit Go.Proofs.YtemoocoedibbpabW.PrintWords Go.Proofs.YtemoocoedibbpabW.PrintLast Go.Proofs.YtemoocoedibbpabW.PrintMore
attribute [local go_sem] max2_int min2_int max_two min_two max_three min_three max_four min_four
set_option linter.unusedVariables false
set_option linter.unusedSimpArgs false

/-! ### dactylref04_Right: function 89 -/
def dactylref04_Right.f (a0_0 : Int) (a0_1 : Int) : Option (Bool) := (dactylref02_Right.f a0_0).bind fun t102 => (if t102 = true then (if a0_1 ≥ 0 then (some (decide (a0_1 ≤ 5))) else (some false)) else (some false))
set_option maxHeartbeats 8000000 in
set_option maxRecDepth 100000 in
theorem dactylref04_Right.calls (a0_0 : Int) (a0_1 : Int) (r : Bool) (w : World) (h : dactylref04_Right.f a0_0 a0_1 = some r) :
  Calls Try.prog 89 #[.agg #[.int .i64 a0_0, .int .i64 a0_1]] w fun e w' => e = .returned (.bool r) ∧ Below w.heap.size w w' := by
 have hu47 := Try.underlying47
 have HB := Aside0.mk (Below.refl w.heap.size w)
 have H : ((dactylref02_Right.f a0_0).bind fun t102 => (if t102 = true then (if a0_1 ≥ 0 then (some (decide (a0_1 ≤ 5))) else (some false)) else (some false))) = some r := h
 clear h
 replace H := Option.bind_eq_some_iff.mp H
 obtain ⟨t102, A20, H⟩ := H
 try dsimp only at H
 have A2 := Aside0.mk A20
 clear A20
 by_cases c3 : t102 = true
 ·subst c3
  have H1 : (if a0_1 ≥ 0 then (some (decide (a0_1 ≤ 5))) else (some false)) = some r := by rw [if_pos rfl] at H; exact H
  clear H
  have H := H1
  clear H1
  by_cases c4 : a0_1 ≥ 0
  ·rw [if_pos c4] at H
   have c4b0 : decide (0 ≤ a0_1) = true := decide_eq_true c4
   clear c4
   obtain rfl := Option.some.inj H
   go_enter Try.func89, Try.ntmps89
   go_wp2_with (first | ((with_reducible refine gate_dst (N := 1) rfl ?_); refine box_event ?hg (N := 1) ?hd (cs := #[.int .i64 a0_0, .int .i64 a0_1]) (t := 47) ?hr ?_; (case hd => rfl); (case hg => rfl); (case hr => first | (go_simp; done) | (go_simp; rfl)); intro gb101 hg w5 hbox hb; have BK101 := a0 (hbox); have GW101 := a0 ((by rw [hg]; exact (below_size HB.out) : w.heap.size ≤ gb101)); have GE101 := a0 ((by rw [hg]; exact (below_size HB.out) : w.heap.size ≤ gb101)); replace HB := a0 (below_step HB.out hb); clear hb hbox hg; obtain ⟨hcz6_0, hcz6_1, hfz6_0, hfz6_1⟩ := c2 BK101.out) | ((with_reducible refine gate_callee (f := 132) rfl ?_); refine gL (some 5) Try.func132 (by kernel_rfl) #[.int .i64 a0_0] rfl rfl rfl rfl rfl ?_; (with_reducible refine (dactylref02_Right.calls a0_0 true _ A2.out).mono ?_); rintro e w' ⟨rfl, ⟨nd, rfl⟩⟩; refine ⟨_, rfl, ?_⟩))
   go_ret
   exact ⟨by first | rfl | (simp [errW_none, errW_some] <;> rfl) | (simp [*, errW_none, errW_some] <;> rfl), by repeat (first | (with_reducible first | exact HB.out | apply below_alloc | apply pw_below_drewN | apply below_drew1 | refine below_set ?_ GE101.out) | exact HB.out)⟩
  ·rw [if_neg c4] at H
   have c4b0 : decide (0 ≤ a0_1) = false := decide_eq_false c4
   clear c4
   obtain rfl := Option.some.inj H
   go_enter Try.func89, Try.ntmps89
   go_wp2_with (first | ((with_reducible refine gate_dst (N := 1) rfl ?_); refine box_event ?hg (N := 1) ?hd (cs := #[.int .i64 a0_0, .int .i64 a0_1]) (t := 47) ?hr ?_; (case hd => rfl); (case hg => rfl); (case hr => first | (go_simp; done) | (go_simp; rfl)); intro gb101 hg w7 hbox hb; have BK101 := a0 (hbox); have GW101 := a0 ((by rw [hg]; exact (below_size HB.out) : w.heap.size ≤ gb101)); have GE101 := a0 ((by rw [hg]; exact (below_size HB.out) : w.heap.size ≤ gb101)); replace HB := a0 (below_step HB.out hb); clear hb hbox hg; obtain ⟨hcz8_0, hcz8_1, hfz8_0, hfz8_1⟩ := c2 BK101.out) | ((with_reducible refine gate_callee (f := 132) rfl ?_); refine gL (some 5) Try.func132 (by kernel_rfl) #[.int .i64 a0_0] rfl rfl rfl rfl rfl ?_; (with_reducible refine (dactylref02_Right.calls a0_0 true _ A2.out).mono ?_); rintro e w' ⟨rfl, ⟨nd, rfl⟩⟩; refine ⟨_, rfl, ?_⟩))
   go_ret
   exact ⟨by first | rfl | (simp [errW_none, errW_some] <;> rfl) | (simp [*, errW_none, errW_some] <;> rfl), by repeat (first | (with_reducible first | exact HB.out | apply below_alloc | apply pw_below_drewN | apply below_drew1 | refine below_set ?_ GE101.out) | exact HB.out)⟩
 ·replace c3 := Bool.eq_false_iff.mpr c3
  subst c3
  have H1 : (some false) = some r := by rw [if_neg (show ¬ (false = true) by decide)] at H; exact H
  clear H
  have H := H1
  clear H1
  obtain rfl := Option.some.inj H
  go_enter Try.func89, Try.ntmps89
  go_wp2_with (first | ((with_reducible refine gate_dst (N := 1) rfl ?_); refine box_event ?hg (N := 1) ?hd (cs := #[.int .i64 a0_0, .int .i64 a0_1]) (t := 47) ?hr ?_; (case hd => rfl); (case hg => rfl); (case hr => first | (go_simp; done) | (go_simp; rfl)); intro gb101 hg w9 hbox hb; have BK101 := a0 (hbox); have GW101 := a0 ((by rw [hg]; exact (below_size HB.out) : w.heap.size ≤ gb101)); have GE101 := a0 ((by rw [hg]; exact (below_size HB.out) : w.heap.size ≤ gb101)); replace HB := a0 (below_step HB.out hb); clear hb hbox hg; obtain ⟨hcz10_0, hcz10_1, hfz10_0, hfz10_1⟩ := c2 BK101.out) | ((with_reducible refine gate_callee (f := 132) rfl ?_); refine gL (some 5) Try.func132 (by kernel_rfl) #[.int .i64 a0_0] rfl rfl rfl rfl rfl ?_; (with_reducible refine (dactylref02_Right.calls a0_0 false _ A2.out).mono ?_); rintro e w' ⟨rfl, ⟨nd, rfl⟩⟩; refine ⟨_, rfl, ?_⟩))
  go_ret
  exact ⟨by first | rfl | (simp [errW_none, errW_some] <;> rfl) | (simp [*, errW_none, errW_some] <;> rfl), by repeat (first | (with_reducible first | exact HB.out | apply below_alloc | apply pw_below_drewN | apply below_drew1 | refine below_set ?_ GE101.out) | exact HB.out)⟩

end Go.Proofs.Ytemoocoedibbpab.X

namespace Go.Proofs.Ytemoocoedibbpab.X
open Go.RowKit Go.Proofs.YtemoocoedibbpabW.PrintWords Go.Proofs.YtemoocoedibbpabW.PrintLast Go.Proofs.YtemoocoedibbpabW.PrintMore
attribute [local go_sem] max2_int min2_int max_two min_two max_three min_three max_four min_four
set_option linter.unusedVariables false
set_option linter.unusedSimpArgs false

/-! ### dactylref04_All: function 43 -/
def dactylref04_All.l0 : Nat → List (S47) → Int → Option (Bool)
 | 0, _, _ => none
 | k + 1, x0, x3 => if x3 < (x0.length : Int) then (if 0 ≤ x3 then ((dactylref04_Right.f ((rd_T47 x0 x3).f0) ((rd_T47 x0 x3).f1)).bind fun t102 => (if t102 = true then (dactylref04_All.l0 k x0 (wrap64 (x3 + 1))) else (some false))) else (none)) else (some true)
def dactylref04_All.f (k : Nat) (l0 : List (S47)) : Option (Bool) := dactylref04_All.l0 k l0 0
theorem dactylref04_All.mono_l : ∀ k, (∀ y0 y1, LeO (dactylref04_All.l0 k y0 y1) (dactylref04_All.l0 (k + 1) y0 y1))
 | 0 => fun _ _ r h => by simp [dactylref04_All.l0] at h
 | k + 1 => by
  have ih0 := dactylref04_All.mono_l k
  ·intro y0 y1
   unfold dactylref04_All.l0
   repeat' first
   | (with_reducible exact ih0 _ _)
   | (with_reducible exact LeO.refl _)
   | (with_reducible exact LeO.none _)
   | (with_reducible refine LeO.ite ?_ ?_)
   | (with_reducible refine LeO.bind ?_ (fun _ => ?_))
   | exact ih0 _ _
   | exact LeO.none _
   | refine LeO.ite ?_ ?_
   | refine LeO.bind ?_ (fun _ => ?_)
theorem dactylref04_All.mono : ∀ a0 k, LeO (dactylref04_All.f k a0) (dactylref04_All.f (k + 1) a0) := by
 intro a0 k
 have ih0 := dactylref04_All.mono_l k
 unfold dactylref04_All.f
 repeat' first
   | (with_reducible exact ih0 _ _)
   | (with_reducible exact LeO.refl _)
   | (with_reducible exact LeO.none _)
   | (with_reducible refine LeO.ite ?_ ?_)
   | (with_reducible refine LeO.bind ?_ (fun _ => ?_))
   | exact ih0 _ _
   | exact LeO.none _
   | refine LeO.ite ?_ ?_
   | refine LeO.bind ?_ (fun _ => ?_)
set_option maxHeartbeats 8000000 in
set_option maxRecDepth 100000 in
theorem dactylref04_All.calls (k : Nat) (A0 : Option Addr) (c0 : Nat) (l0 : List (S47)) (r : Bool) (w : World) (hr0 : Kd.C k47 w A0 l0.length l0) (hc0 : l0.length ≤ c0) (h : dactylref04_All.f k l0 = some r) :
  Calls Try.prog 43 #[.slice A0 l0.length c0] w fun e w' => e = .returned (.bool r) ∧ Below w.heap.size w w' := by
 have hu47 := Try.underlying47
 have HR0 := Aside0.mk hr0
 have HC0 := Aside0.mk hc0
 clear hr0 hc0
 have HB := Aside0.mk (Below.refl w.heap.size w)
 have H : (dactylref04_All.l0 k l0 0) = some r := h
 clear h
 have H' := Aside0.mk H
 clear H
 go_enter Try.func43, Try.ntmps43
 go_wp2
 go_loopg [3] k (fun kq v3 w' => ∃ (x3_1 : Int), v3 = .int .i64 x3_1 ∧ Aside0 (dactylref04_All.l0 kq l0 x3_1 = some r) ∧ Aside0 (kq ≤ k) ∧ Aside0 (Below w.heap.size w w'))
 case atStart => exact ⟨(0), (by first | rfl | (simp; done) | (simp [*]; done)), H', ⟨Nat.le_refl _⟩, ⟨by repeat (first | (with_reducible first | exact HB.out | apply below_alloc | apply pw_below_drewN | apply below_drew1) | exact HB.out)⟩⟩
 case round =>
  clear H'
  obtain ⟨x3_1, rfl, HA, HK1, HB⟩ := hrel
  cases gk with
  | zero => exact absurd HA.out (by simp [dactylref04_All.l0])
  | succ k1 =>
   have H := HA.out
   clear HA
   simp only [dactylref04_All.l0] at H
   by_cases c2 : x3_1 < (l0.length : Int)
   ·rw [if_pos c2] at H
    have c2b0 : decide (x3_1 < (l0.length : Int)) = true := decide_eq_true c2
    clear c2
    by_cases c3 : 0 ≤ x3_1
    ·rw [if_pos c3] at H
     have c3b0 : decide (0 ≤ x3_1) = true := decide_eq_true c3
     clear c3
     replace H := Option.bind_eq_some_iff.mp H
     obtain ⟨t102, A40, H⟩ := H
     try dsimp only at H
     have A4 := Aside0.mk A40
     clear A40
     by_cases c5 : t102 = true
     ·subst c5
      have H1 : (dactylref04_All.l0 k1 l0 (wrap64 (x3_1 + 1))) = some r := by rw [if_pos rfl] at H; exact H
      clear H
      have H := H1
      clear H1
      have H' := Aside0.mk H
      clear H
      have p101 : 0 ≤ (x3_1 : Int) := of_decide_eq_true (by first | (with_reducible assumption) | assumption)
      have q101 : x3_1 < (l0.length : Int) := of_decide_eq_true (by first | (with_reducible assumption) | assumption)
      obtain ⟨ad101, e101, hx101_0, hx101_1⟩ := at_T47 HR0.out x3_1 p101 q101
      cases e101
      replace hx101_0 := (HB.out.cell (World.block_lt_of_cell? w _ hx101_0)).trans hx101_0
      replace hx101_1 := (HB.out.cell (World.block_lt_of_cell? w _ hx101_1)).trans hx101_1
      replace p101 := eq_true p101
      replace q101 := eq_true q101
      go_wp2_with (first | ((with_reducible refine gate_callee (f := 89) rfl ?_); refine gL (some 14) Try.func89 (by kernel_rfl) #[.agg #[.int .i64 ((rd_T47 l0 x3_1).f0), .int .i64 ((rd_T47 l0 x3_1).f1)]] rfl rfl rfl rfl rfl ?_; (with_reducible refine (dactylref04_Right.calls ((rd_T47 l0 x3_1).f0) ((rd_T47 l0 x3_1).f1) true _ A4.out).mono ?_); rintro e w6 ⟨rfl, hb⟩; refine ⟨_, rfl, ?_⟩; replace HB := a0 (below_step HB.out hb); (try clear hb); (try clear hb2); (try clear hk); (try clear hi)))
      go_roundg k1
      case measure => have := HK1.out; omega
      case rel => exact ⟨(wrap64 (x3_1 + 1)), (by first | rfl | (simp; done) | (simp [*]; done)), H', ⟨by have := HK1.out; omega⟩, ⟨by repeat (first | (with_reducible first | exact HB.out | apply below_alloc | apply pw_below_drewN | apply below_drew1) | exact HB.out)⟩⟩
     ·replace c5 := Bool.eq_false_iff.mpr c5
      subst c5
      have H1 : (some false) = some r := by rw [if_neg (show ¬ (false = true) by decide)] at H; exact H
      clear H
      have H := H1
      clear H1
      obtain rfl := Option.some.inj H
      have p101 : 0 ≤ (x3_1 : Int) := of_decide_eq_true (by first | (with_reducible assumption) | assumption)
      have q101 : x3_1 < (l0.length : Int) := of_decide_eq_true (by first | (with_reducible assumption) | assumption)
      obtain ⟨ad101, e101, hx101_0, hx101_1⟩ := at_T47 HR0.out x3_1 p101 q101
      cases e101
      replace hx101_0 := (HB.out.cell (World.block_lt_of_cell? w _ hx101_0)).trans hx101_0
      replace hx101_1 := (HB.out.cell (World.block_lt_of_cell? w _ hx101_1)).trans hx101_1
      replace p101 := eq_true p101
      replace q101 := eq_true q101
      go_wp2_with (first | ((with_reducible refine gate_callee (f := 89) rfl ?_); refine gL (some 14) Try.func89 (by kernel_rfl) #[.agg #[.int .i64 ((rd_T47 l0 x3_1).f0), .int .i64 ((rd_T47 l0 x3_1).f1)]] rfl rfl rfl rfl rfl ?_; (with_reducible refine (dactylref04_Right.calls ((rd_T47 l0 x3_1).f0) ((rd_T47 l0 x3_1).f1) false _ A4.out).mono ?_); rintro e w7 ⟨rfl, hb⟩; refine ⟨_, rfl, ?_⟩; replace HB := a0 (below_step HB.out hb); (try clear hb); (try clear hb2); (try clear hk); (try clear hi)))
      go_ret
      exact ⟨by first | rfl | (simp [errW_none, errW_some] <;> rfl) | (simp [*, errW_none, errW_some] <;> rfl), by repeat (first | (with_reducible first | exact HB.out | apply below_alloc | apply pw_below_drewN | apply below_drew1) | exact HB.out)⟩
    ·rw [if_neg c3] at H
     exact absurd H (by simp)
   ·rw [if_neg c2] at H
    have c2b0 : decide (x3_1 < (l0.length : Int)) = false := decide_eq_false c2
    clear c2
    obtain rfl := Option.some.inj H
    go_wp2
    go_ret
    exact ⟨by first | rfl | (simp [errW_none, errW_some] <;> rfl) | (simp [*, errW_none, errW_some] <;> rfl), by repeat (first | (with_reducible first | exact HB.out | apply below_alloc | apply pw_below_drewN | apply below_drew1) | exact HB.out)⟩

end Go.Proofs.Ytemoocoedibbpab.X

namespace Go.Proofs.Ytemoocoedibbpab.X
open Go.RowKit Go.Proofs.YtemoocoedibbpabW.PrintWords Go.Proofs.YtemoocoedibbpabW.PrintLast Go.Proofs.YtemoocoedibbpabW.PrintMore
attribute [local go_sem] max2_int min2_int max_two min_two max_three min_three max_four min_four
set_option linter.unusedVariables false
set_option linter.unusedSimpArgs false

/-! ### dactylref17_May: function 14 -/
def dactylref17_May.f (k : Nat) (l0_0 : List (S47)) (a0_1 : Int) : Option (Bool) := if a0_1 ≥ 0 then (if a0_1 ≤ (l0_0.length : Int) then ((dactylref04_All.f k l0_0).bind fun t102 => (some t102)) else (some false)) else (some false)
theorem dactylref17_May.mono : ∀ a0 a1 k, LeO (dactylref17_May.f k a0 a1) (dactylref17_May.f (k + 1) a0 a1) := by
 intro a0 a1 k
 unfold dactylref17_May.f
 repeat' first
   | (with_reducible exact dactylref04_All.mono _ _)
   | (with_reducible exact LeO.refl _)
   | (with_reducible exact LeO.none _)
   | (with_reducible refine LeO.ite ?_ ?_)
   | (with_reducible refine LeO.bind ?_ (fun _ => ?_))
   | exact dactylref04_All.mono _ _
   | exact LeO.none _
   | refine LeO.ite ?_ ?_
   | refine LeO.bind ?_ (fun _ => ?_)
set_option maxHeartbeats 8000000 in
set_option maxRecDepth 100000 in
theorem dactylref17_May.calls (k : Nat) (A0_0 : Option Addr) (c0_0 : Nat) (l0_0 : List (S47)) (a0_1 : Int) (r : Bool) (w : World) (hr0_0 : Kd.C k47 w A0_0 l0_0.length l0_0) (hc0_0 : l0_0.length ≤ c0_0) (h : dactylref17_May.f k l0_0 a0_1 = some r) :
  Calls Try.prog 14 #[.agg #[.slice A0_0 l0_0.length c0_0, .int .i64 a0_1]] w fun e w' => e = .returned (.bool r) ∧ Below w.heap.size w w' := by
 have hu24 := Try.underlying24
 have HR0_0 := Aside0.mk hr0_0
 have HC0_0 := Aside0.mk hc0_0
 clear hr0_0 hc0_0
 have HB := Aside0.mk (Below.refl w.heap.size w)
 have H : (if a0_1 ≥ 0 then (if a0_1 ≤ (l0_0.length : Int) then ((dactylref04_All.f k l0_0).bind fun t102 => (some t102)) else (some false)) else (some false)) = some r := h
 clear h
 by_cases c2 : a0_1 ≥ 0
 ·rw [if_pos c2] at H
  have c2b0 : decide (0 ≤ a0_1) = true := decide_eq_true c2
  clear c2
  by_cases c3 : a0_1 ≤ (l0_0.length : Int)
  ·rw [if_pos c3] at H
   have c3b0 : decide (a0_1 ≤ (l0_0.length : Int)) = true := decide_eq_true c3
   clear c3
   replace H := Option.bind_eq_some_iff.mp H
   obtain ⟨t102, A40, H⟩ := H
   try dsimp only at H
   have A4 := Aside0.mk A40
   clear A40
   obtain rfl := Option.some.inj H
   go_enter Try.func14, Try.ntmps14
   go_wp2_with (first | ((with_reducible refine gate_dst (N := 1) rfl ?_); (try (refine gate_guard (by rfl) ?_; dsimp only)); refine box_event ?hg (N := 1) ?hd (cs := #[.slice A0_0 l0_0.length c0_0, .int .i64 a0_1]) (t := 24) ?hr ?_; (case hd => rfl); (case hg => rfl); (case hr => first | (go_simp; done) | (go_simp; rfl)); intro gb101 hg w5 hbox hb; have BK101 := a0 (hbox); have GW101 := a0 ((by rw [hg]; exact (below_size HB.out) : w.heap.size ≤ gb101)); have GE101 := a0 ((by rw [hg]; exact (below_size HB.out) : w.heap.size ≤ gb101)); replace HB := a0 (below_step HB.out hb); clear hb hbox hg; obtain ⟨hcz6_0, hcz6_1, hfz6_0, hfz6_1⟩ := c2 BK101.out) | (go_at_call 43; (with_reducible refine (dactylref04_All.calls k _ _ l0_0 t102 _ ?side1 ?side2 A4.out).mono ?_); (case side1 => repeat (first | exact (Kd.C_below HR0_0.out HB.out) | (with_reducible refine Kd.C_alloc ?_ _) | (with_reducible refine Kd.C_drewN ?_ _) | (with_reducible refine Kd.C_drew ?_))); (case side2 => exact HC0_0.out); rintro e w7 ⟨rfl, hb⟩; replace BK101 := a0 (bB hb BK101.out); replace HB := a0 (below_step HB.out hb); (try clear hb); (try clear hb2); (try clear hk); (try clear hi)))
   go_ret
   exact ⟨by first | rfl | (simp [errW_none, errW_some] <;> rfl) | (simp [*, errW_none, errW_some] <;> rfl), by repeat (first | (with_reducible first | exact HB.out | apply below_alloc | apply pw_below_drewN | apply below_drew1 | refine below_set ?_ GE101.out) | exact HB.out)⟩
  ·rw [if_neg c3] at H
   have c3b0 : decide (a0_1 ≤ (l0_0.length : Int)) = false := decide_eq_false c3
   clear c3
   obtain rfl := Option.some.inj H
   go_enter Try.func14, Try.ntmps14
   go_wp2_with (first | ((with_reducible refine gate_dst (N := 1) rfl ?_); (try (refine gate_guard (by rfl) ?_; dsimp only)); refine box_event ?hg (N := 1) ?hd (cs := #[.slice A0_0 l0_0.length c0_0, .int .i64 a0_1]) (t := 24) ?hr ?_; (case hd => rfl); (case hg => rfl); (case hr => first | (go_simp; done) | (go_simp; rfl)); intro gb101 hg w8 hbox hb; have BK101 := a0 (hbox); have GW101 := a0 ((by rw [hg]; exact (below_size HB.out) : w.heap.size ≤ gb101)); have GE101 := a0 ((by rw [hg]; exact (below_size HB.out) : w.heap.size ≤ gb101)); replace HB := a0 (below_step HB.out hb); clear hb hbox hg; obtain ⟨hcz9_0, hcz9_1, hfz9_0, hfz9_1⟩ := c2 BK101.out))
   go_ret
   exact ⟨by first | rfl | (simp [errW_none, errW_some] <;> rfl) | (simp [*, errW_none, errW_some] <;> rfl), by repeat (first | (with_reducible first | exact HB.out | apply below_alloc | apply pw_below_drewN | apply below_drew1 | refine below_set ?_ GE101.out) | exact HB.out)⟩
 ·rw [if_neg c2] at H
  have c2b0 : decide (0 ≤ a0_1) = false := decide_eq_false c2
  clear c2
  obtain rfl := Option.some.inj H
  go_enter Try.func14, Try.ntmps14
  go_wp2_with (first | ((with_reducible refine gate_dst (N := 1) rfl ?_); (try (refine gate_guard (by rfl) ?_; dsimp only)); refine box_event ?hg (N := 1) ?hd (cs := #[.slice A0_0 l0_0.length c0_0, .int .i64 a0_1]) (t := 24) ?hr ?_; (case hd => rfl); (case hg => rfl); (case hr => first | (go_simp; done) | (go_simp; rfl)); intro gb101 hg w10 hbox hb; have BK101 := a0 (hbox); have GW101 := a0 ((by rw [hg]; exact (below_size HB.out) : w.heap.size ≤ gb101)); have GE101 := a0 ((by rw [hg]; exact (below_size HB.out) : w.heap.size ≤ gb101)); replace HB := a0 (below_step HB.out hb); clear hb hbox hg; obtain ⟨hcz11_0, hcz11_1, hfz11_0, hfz11_1⟩ := c2 BK101.out))
  go_ret
  exact ⟨by first | rfl | (simp [errW_none, errW_some] <;> rfl) | (simp [*, errW_none, errW_some] <;> rfl), by repeat (first | (with_reducible first | exact HB.out | apply below_alloc | apply pw_below_drewN | apply below_drew1 | refine below_set ?_ GE101.out) | exact HB.out)⟩

end Go.Proofs.Ytemoocoedibbpab.X

namespace Go.Proofs.Ytemoocoedibbpab.X
open Go.RowKit Go.Proofs.YtemoocoedibbpabW.PrintWords Go.Proofs.YtemoocoedibbpabW.PrintLast Go.Proofs.YtemoocoedibbpabW.PrintMore
attribute [local go_sem] max2_int min2_int max_two min_two max_three min_three max_four min_four
set_option linter.unusedVariables false
set_option linter.unusedSimpArgs false

theorem eqA47 (d : Nat) (w : World) (x0 y0 : Int) (x1 y1 : Int) :
    (Op.equalIn (d + 2) 47 (.agg #[.int .i64 x0, .int .i64 x1]) (.agg #[.int .i64 y0, .int .i64 y1])).run Try.prog w = .ok (x0 == y0 && (x1 == y1)) w := by
  refine eqA_of Try.underlying47 (by kernel_rfl) ?_
  refine eqf_cons (by rfl) (by go_simp; rfl) (by go_simp; rfl) (by go_simp) ?_
  exact eqf_last (by rfl) (by go_simp; rfl) (by go_simp; rfl) (by go_simp)
end Go.Proofs.Ytemoocoedibbpab.X

namespace Go.Proofs.Ytemoocoedibbpab.X
open Go.RowKit Go.Proofs.YtemoocoedibbpabW.PrintWords Go.Proofs.YtemoocoedibbpabW.PrintLast Go.Proofs.YtemoocoedibbpabW.PrintMore
attribute [local go_sem] max2_int min2_int max_two min_two max_three min_three max_four min_four
set_option linter.unusedVariables false
set_option linter.unusedSimpArgs false

attribute [local go_sem high] eqA47
/-! ### dactylref04_Same: function 26 -/
def dactylref04_Same.l0 : Nat → List (S47) → List (S47) → Int → Option (Bool)
 | 0, _, _, _ => none
 | k + 1, x0, x1, x5 => if x5 < (x0.length : Int) then (if 0 ≤ x5 then (if x5 < (x1.length : Int) then (if (!(((rd_T47 x0 x5).f0) == ((rd_T47 x1 x5).f0)) || (!(((rd_T47 x0 x5).f1) == ((rd_T47 x1 x5).f1)))) = true then (some false) else (dactylref04_Same.l0 k x0 x1 (wrap64 (x5 + 1)))) else (none)) else (none)) else (some true)
def dactylref04_Same.f (k : Nat) (l0 : List (S47)) (l1 : List (S47)) : Option (Bool) := if (l0.length : Int) = (l1.length : Int) then (dactylref04_Same.l0 k l0 l1 0) else (some false)
theorem dactylref04_Same.mono_l : ∀ k, (∀ y0 y1 y2, LeO (dactylref04_Same.l0 k y0 y1 y2) (dactylref04_Same.l0 (k + 1) y0 y1 y2))
 | 0 => fun _ _ _ r h => by simp [dactylref04_Same.l0] at h
 | k + 1 => by
  have ih0 := dactylref04_Same.mono_l k
  ·intro y0 y1 y2
   unfold dactylref04_Same.l0
   repeat' first
   | (with_reducible exact ih0 _ _ _)
   | (with_reducible exact LeO.refl _)
   | (with_reducible exact LeO.none _)
   | (with_reducible refine LeO.ite ?_ ?_)
   | (with_reducible refine LeO.bind ?_ (fun _ => ?_))
   | exact ih0 _ _ _
   | exact LeO.none _
   | refine LeO.ite ?_ ?_
   | refine LeO.bind ?_ (fun _ => ?_)
theorem dactylref04_Same.mono : ∀ a0 a1 k, LeO (dactylref04_Same.f k a0 a1) (dactylref04_Same.f (k + 1) a0 a1) := by
 intro a0 a1 k
 have ih0 := dactylref04_Same.mono_l k
 unfold dactylref04_Same.f
 repeat' first
   | (with_reducible exact ih0 _ _ _)
   | (with_reducible exact LeO.refl _)
   | (with_reducible exact LeO.none _)
   | (with_reducible refine LeO.ite ?_ ?_)
   | (with_reducible refine LeO.bind ?_ (fun _ => ?_))
   | exact ih0 _ _ _
   | exact LeO.none _
   | refine LeO.ite ?_ ?_
   | refine LeO.bind ?_ (fun _ => ?_)
set_option maxHeartbeats 8000000 in
set_option maxRecDepth 100000 in
theorem dactylref04_Same.calls (k : Nat) (A0 : Option Addr) (c0 : Nat) (l0 : List (S47)) (A1 : Option Addr) (c1 : Nat) (l1 : List (S47)) (r : Bool) (w : World) (hr0 : Kd.C k47 w A0 l0.length l0) (hc0 : l0.length ≤ c0) (hr1 : Kd.C k47 w A1 l1.length l1) (hc1 : l1.length ≤ c1) (h : dactylref04_Same.f k l0 l1 = some r) :
  Calls Try.prog 26 #[.slice A0 l0.length c0, .slice A1 l1.length c1] w fun e w' => e = .returned (.bool r) ∧ Drawn0 w w' := by
 have hu47 := Try.underlying47
 have HR0 := Aside0.mk hr0
 have HC0 := Aside0.mk hc0
 clear hr0 hc0
 have HR1 := Aside0.mk hr1
 have HC1 := Aside0.mk hc1
 clear hr1 hc1
 have H : (if (l0.length : Int) = (l1.length : Int) then (dactylref04_Same.l0 k l0 l1 0) else (some false)) = some r := h
 clear h
 by_cases c3 : (l0.length : Int) = (l1.length : Int)
 ·rw [if_pos c3] at H
  have c3b0 : ((l0.length : Int) == (l1.length : Int)) = true := beq_iff_eq.mpr c3
  have c3b1 : ((l0.length : Int) != (l1.length : Int)) = false := bne_eq_false_iff_eq.mpr c3
  have c3b2 : (l0.length == l1.length) = true := by first | simpa using c3 | (simp at c3 ⊢; omega)
  clear c3
  have H' := Aside0.mk H
  clear H
  go_enter Try.func26, Try.ntmps26
  go_wp2
  repeat (go_quiet (fail); try go_wp2)
  go_loopg [5] k (fun kq v5 w' => ∃ (x5_1 : Int), v5 = .int .i64 x5_1 ∧ Aside0 (dactylref04_Same.l0 kq l0 l1 x5_1 = some r) ∧ Aside0 (kq ≤ k) ∧ Drawn0 w w')
  case atStart => exact ⟨(0), (by first | rfl | (simp; done) | (simp [*]; done)), H', ⟨Nat.le_refl _⟩, by repeat (first | exact Drawn0.refl _ | apply Drawn0.step)⟩
  case round =>
   clear H'
   try clear c1
   try clear c2
   try clear p2
   try clear c3
   try clear c3b0
   try clear c3b1
   try clear c3b2
   obtain ⟨x5_1, rfl, HA, HK1, ⟨m1, rfl⟩⟩ := hrel
   cases gk with
   | zero => exact absurd HA.out (by simp [dactylref04_Same.l0])
   | succ k1 =>
    have H := HA.out
    clear HA
    simp only [dactylref04_Same.l0] at H
    by_cases c4 : x5_1 < (l0.length : Int)
    ·rw [if_pos c4] at H
     have c4b0 : decide (x5_1 < (l0.length : Int)) = true := decide_eq_true c4
     clear c4
     by_cases c5 : 0 ≤ x5_1
     ·rw [if_pos c5] at H
      have c5b0 : decide (0 ≤ x5_1) = true := decide_eq_true c5
      clear c5
      by_cases c6 : x5_1 < (l1.length : Int)
      ·rw [if_pos c6] at H
       have c6b0 : decide (x5_1 < (l1.length : Int)) = true := decide_eq_true c6
       clear c6
       by_cases c7 : (!(((rd_T47 l0 x5_1).f0) == ((rd_T47 l1 x5_1).f0)) || (!(((rd_T47 l0 x5_1).f1) == ((rd_T47 l1 x5_1).f1)))) = true
       ·rw [if_pos c7] at H
        have c7b0 : (!(((rd_T47 l0 x5_1).f0) == ((rd_T47 l1 x5_1).f0)) || (!(((rd_T47 l0 x5_1).f1) == ((rd_T47 l1 x5_1).f1)))) = true := c7
        clear c7
        obtain rfl := Option.some.inj H
        have p101 : 0 ≤ (x5_1 : Int) := of_decide_eq_true (by first | (with_reducible assumption) | assumption)
        have q101 : x5_1 < (l0.length : Int) := of_decide_eq_true (by first | (with_reducible assumption) | assumption)
        obtain ⟨ad101, e101, hx101_0, hx101_1⟩ := at_T47 HR0.out x5_1 p101 q101
        cases e101
        replace p101 := eq_true p101
        replace q101 := eq_true q101
        have p102 : 0 ≤ (x5_1 : Int) := of_decide_eq_true (by first | (with_reducible assumption) | assumption)
        have q102 : x5_1 < (l1.length : Int) := of_decide_eq_true (by first | (with_reducible assumption) | assumption)
        obtain ⟨ad102, e102, hx102_0, hx102_1⟩ := at_T47 HR1.out x5_1 p102 q102
        cases e102
        replace p102 := eq_true p102
        replace q102 := eq_true q102
        go_wp2
        repeat (go_quiet (fail); try go_wp2)
        go_ret
        exact ⟨by first | rfl | (simp; done) | (simp [*]; done), by repeat (first | exact Drawn0.refl _ | apply Drawn0.step)⟩
       ·rw [if_neg c7] at H
        have c7b0 : (!(((rd_T47 l0 x5_1).f0) == ((rd_T47 l1 x5_1).f0)) || (!(((rd_T47 l0 x5_1).f1) == ((rd_T47 l1 x5_1).f1)))) = false := by simpa using c7
        clear c7
        have H' := Aside0.mk H
        clear H
        have p101 : 0 ≤ (x5_1 : Int) := of_decide_eq_true (by first | (with_reducible assumption) | assumption)
        have q101 : x5_1 < (l0.length : Int) := of_decide_eq_true (by first | (with_reducible assumption) | assumption)
        obtain ⟨ad101, e101, hx101_0, hx101_1⟩ := at_T47 HR0.out x5_1 p101 q101
        cases e101
        replace p101 := eq_true p101
        replace q101 := eq_true q101
        have p102 : 0 ≤ (x5_1 : Int) := of_decide_eq_true (by first | (with_reducible assumption) | assumption)
        have q102 : x5_1 < (l1.length : Int) := of_decide_eq_true (by first | (with_reducible assumption) | assumption)
        obtain ⟨ad102, e102, hx102_0, hx102_1⟩ := at_T47 HR1.out x5_1 p102 q102
        cases e102
        replace p102 := eq_true p102
        replace q102 := eq_true q102
        go_wp2
        repeat (go_quiet (fail); try go_wp2)
        go_roundg k1
        case measure => have := HK1.out; omega
        case rel => exact ⟨(wrap64 (x5_1 + 1)), (by first | rfl | (simp; done) | (simp [*]; done)), H', ⟨by have := HK1.out; omega⟩, by repeat (first | exact Drawn0.refl _ | apply Drawn0.step)⟩
      ·rw [if_neg c6] at H
       exact absurd H (by simp)
     ·rw [if_neg c5] at H
      exact absurd H (by simp)
    ·rw [if_neg c4] at H
     have c4b0 : decide (x5_1 < (l0.length : Int)) = false := decide_eq_false c4
     clear c4
     obtain rfl := Option.some.inj H
     go_wp2
     repeat (go_quiet (fail); try go_wp2)
     go_ret
     exact ⟨by first | rfl | (simp; done) | (simp [*]; done), by repeat (first | exact Drawn0.refl _ | apply Drawn0.step)⟩
 ·rw [if_neg c3] at H
  have c3b0 : ((l0.length : Int) == (l1.length : Int)) = false := beq_eq_false_iff_ne.mpr c3
  have c3b1 : ((l0.length : Int) != (l1.length : Int)) = true := bne_iff_ne.mpr c3
  have c3b2 : (l0.length == l1.length) = false := by first | simpa using c3 | (simp at c3 ⊢; omega)
  obtain rfl := Option.some.inj H
  go_enter Try.func26, Try.ntmps26
  go_wp2
  repeat (go_quiet (fail); try go_wp2)
  go_ret
  exact ⟨by first | rfl | (simp; done) | (simp [*]; done), by repeat (first | exact Drawn0.refl _ | apply Drawn0.step)⟩

end Go.Proofs.Ytemoocoedibbpab.X

namespace Go.Proofs.Ytemoocoedibbpab.X
open Go.RowKit Go.Proofs.YtemoocoedibbpabW.PrintWords Go.Proofs.YtemoocoedibbpabW.PrintLast Go.Proofs.YtemoocoedibbpabW.PrintMore
attribute [local go_sem] max2_int min2_int max_two min_two max_three min_three max_four min_four
set_option linter.unusedVariables false
set_option linter.unusedSimpArgs false

/-! ### dactylref16_Same: function 21 -/
def dactylref16_Same.f (k : Nat) (l0_0 : List (S47)) (a0_1 : Int) (l1_0 : List (S47)) (a1_1 : Int) : Option (Bool) := if a0_1 = a1_1 then ((dactylref04_Same.f k l0_0 l1_0).bind fun t103 => (some t103)) else (some false)
theorem dactylref16_Same.mono : ∀ a0 a1 a2 a3 k, LeO (dactylref16_Same.f k a0 a1 a2 a3) (dactylref16_Same.f (k + 1) a0 a1 a2 a3) := by
 intro a0 a1 a2 a3 k
 unfold dactylref16_Same.f
 repeat' first
   | (with_reducible exact dactylref04_Same.mono _ _ _)
   | (with_reducible exact LeO.refl _)
   | (with_reducible exact LeO.none _)
   | (with_reducible refine LeO.ite ?_ ?_)
   | (with_reducible refine LeO.bind ?_ (fun _ => ?_))
   | exact dactylref04_Same.mono _ _ _
   | exact LeO.none _
   | refine LeO.ite ?_ ?_
   | refine LeO.bind ?_ (fun _ => ?_)
set_option maxHeartbeats 8000000 in
set_option maxRecDepth 100000 in
theorem dactylref16_Same.calls (k : Nat) (A0_0 : Option Addr) (c0_0 : Nat) (l0_0 : List (S47)) (a0_1 : Int) (A1_0 : Option Addr) (c1_0 : Nat) (l1_0 : List (S47)) (a1_1 : Int) (r : Bool) (w : World) (hr0_0 : Kd.C k47 w A0_0 l0_0.length l0_0) (hc0_0 : l0_0.length ≤ c0_0) (hr1_0 : Kd.C k47 w A1_0 l1_0.length l1_0) (hc1_0 : l1_0.length ≤ c1_0) (h : dactylref16_Same.f k l0_0 a0_1 l1_0 a1_1 = some r) :
  Calls Try.prog 21 #[.agg #[.slice A0_0 l0_0.length c0_0, .int .i64 a0_1], .agg #[.slice A1_0 l1_0.length c1_0, .int .i64 a1_1]] w fun e w' => e = .returned (.bool r) ∧ Below w.heap.size w w' := by
 have hu24 := Try.underlying24
 have HR0_0 := Aside0.mk hr0_0
 have HC0_0 := Aside0.mk hc0_0
 clear hr0_0 hc0_0
 have HR1_0 := Aside0.mk hr1_0
 have HC1_0 := Aside0.mk hc1_0
 clear hr1_0 hc1_0
 have HB := Aside0.mk (Below.refl w.heap.size w)
 have H : (if a0_1 = a1_1 then ((dactylref04_Same.f k l0_0 l1_0).bind fun t103 => (some t103)) else (some false)) = some r := h
 clear h
 by_cases c3 : a0_1 = a1_1
 ·rw [if_pos c3] at H
  have c3b0 : (a0_1 == a1_1) = true := beq_iff_eq.mpr c3
  have c3b1 : (a0_1 != a1_1) = false := bne_eq_false_iff_eq.mpr c3
  clear c3
  replace H := Option.bind_eq_some_iff.mp H
  obtain ⟨t103, A40, H⟩ := H
  try dsimp only at H
  have A4 := Aside0.mk A40
  clear A40
  obtain rfl := Option.some.inj H
  go_enter Try.func21, Try.ntmps21
  go_wp2_with (first | ((with_reducible refine gate_dst (N := 2) rfl ?_); refine box_event ?hg (N := 2) ?hd (cs := #[.slice A0_0 l0_0.length c0_0, .int .i64 a0_1]) (t := 24) ?hr ?_; (case hd => rfl); (case hg => rfl); (case hr => first | (go_simp; done) | (go_simp; rfl)); intro gb101 hg w5 hbox hb; have BK101 := a0 (hbox); have GW101 := a0 ((by rw [hg]; exact (below_size HB.out) : w.heap.size ≤ gb101)); have GE101 := a0 ((by rw [hg]; exact (below_size HB.out) : w.heap.size ≤ gb101)); replace HB := a0 (below_step HB.out hb); clear hb hbox hg) | ((with_reducible refine gate_dst (N := 3) rfl ?_); refine box_event ?hg (N := 3) ?hd (cs := #[.slice A1_0 l1_0.length c1_0, .int .i64 a1_1]) (t := 24) ?hr ?_; (case hd => rfl); (case hg => rfl); (case hr => first | (go_simp; done) | (go_simp; rfl)); intro gb102 hg w6 hbox hb; have BK102 := a0 (hbox); have GW102 := a0 ((by rw [hg]; exact (below_size HB.out) : w.heap.size ≤ gb102)); have GE102 := a0 ((by rw [hg]; exact (below_size HB.out) : w.heap.size ≤ gb102)); replace HB := a0 (below_step HB.out hb); have NB101_102 := a0 ((by rw [hg]; exact Nat.ne_of_lt (blk_lt BK101.out) : gb101 ≠ gb102)); have NB102_101 := a0 ((by rw [hg]; exact Nat.ne_of_gt (blk_lt BK101.out) : gb102 ≠ gb101)); replace BK101 := a0 (bB hb BK101.out); clear hb hbox hg; have hnb7 := NB101_102.out; have hnc7 := NB102_101.out; obtain ⟨hcz8_0, hcz8_1, hfz8_0, hfz8_1⟩ := c2 BK101.out; obtain ⟨hcz9_0, hcz9_1, hfz9_0, hfz9_1⟩ := c2 BK102.out) | (go_at_call 26; (with_reducible refine (dactylref04_Same.calls k _ _ l0_0 _ _ l1_0 t103 _ ?side1 ?side2 ?side3 ?side4 A4.out).mono ?_); (case side1 => repeat (first | exact (Kd.C_below HR0_0.out HB.out) | (with_reducible refine Kd.C_alloc ?_ _) | (with_reducible refine Kd.C_drewN ?_ _) | (with_reducible refine Kd.C_drew ?_))); (case side2 => exact HC0_0.out); (case side3 => repeat (first | exact (Kd.C_below HR1_0.out HB.out) | (with_reducible refine Kd.C_alloc ?_ _) | (with_reducible refine Kd.C_drewN ?_ _) | (with_reducible refine Kd.C_drew ?_))); (case side4 => exact HC1_0.out); rintro e w' ⟨rfl, ⟨nd, rfl⟩⟩))
  go_ret
  exact ⟨by first | rfl | (simp [errW_none, errW_some] <;> rfl) | (simp [*, errW_none, errW_some] <;> rfl), by repeat (first | (with_reducible first | exact HB.out | apply below_alloc | apply pw_below_drewN | apply below_drew1 | refine below_set ?_ GE101.out | refine below_set ?_ GE102.out) | exact HB.out)⟩
 ·rw [if_neg c3] at H
  have c3b0 : (a0_1 == a1_1) = false := beq_eq_false_iff_ne.mpr c3
  have c3b1 : (a0_1 != a1_1) = true := bne_iff_ne.mpr c3
  obtain rfl := Option.some.inj H
  go_enter Try.func21, Try.ntmps21
  go_wp2_with (first | ((with_reducible refine gate_dst (N := 2) rfl ?_); refine box_event ?hg (N := 2) ?hd (cs := #[.slice A0_0 l0_0.length c0_0, .int .i64 a0_1]) (t := 24) ?hr ?_; (case hd => rfl); (case hg => rfl); (case hr => first | (go_simp; done) | (go_simp; rfl)); intro gb101 hg w10 hbox hb; have BK101 := a0 (hbox); have GW101 := a0 ((by rw [hg]; exact (below_size HB.out) : w.heap.size ≤ gb101)); have GE101 := a0 ((by rw [hg]; exact (below_size HB.out) : w.heap.size ≤ gb101)); replace HB := a0 (below_step HB.out hb); clear hb hbox hg) | ((with_reducible refine gate_dst (N := 3) rfl ?_); refine box_event ?hg (N := 3) ?hd (cs := #[.slice A1_0 l1_0.length c1_0, .int .i64 a1_1]) (t := 24) ?hr ?_; (case hd => rfl); (case hg => rfl); (case hr => first | (go_simp; done) | (go_simp; rfl)); intro gb102 hg w11 hbox hb; have BK102 := a0 (hbox); have GW102 := a0 ((by rw [hg]; exact (below_size HB.out) : w.heap.size ≤ gb102)); have GE102 := a0 ((by rw [hg]; exact (below_size HB.out) : w.heap.size ≤ gb102)); replace HB := a0 (below_step HB.out hb); have NB101_102 := a0 ((by rw [hg]; exact Nat.ne_of_lt (blk_lt BK101.out) : gb101 ≠ gb102)); have NB102_101 := a0 ((by rw [hg]; exact Nat.ne_of_gt (blk_lt BK101.out) : gb102 ≠ gb101)); replace BK101 := a0 (bB hb BK101.out); clear hb hbox hg; have hnb12 := NB101_102.out; have hnc12 := NB102_101.out; obtain ⟨hcz13_0, hcz13_1, hfz13_0, hfz13_1⟩ := c2 BK101.out; obtain ⟨hcz14_0, hcz14_1, hfz14_0, hfz14_1⟩ := c2 BK102.out))
  go_ret
  exact ⟨by first | rfl | (simp [errW_none, errW_some] <;> rfl) | (simp [*, errW_none, errW_some] <;> rfl), by repeat (first | (with_reducible first | exact HB.out | apply below_alloc | apply pw_below_drewN | apply below_drew1 | refine below_set ?_ GE101.out | refine below_set ?_ GE102.out) | exact HB.out)⟩

end Go.Proofs.Ytemoocoedibbpab.X

namespace Go.Proofs.Ytemoocoedibbpab.X
open Go.RowKit Go.Proofs.YtemoocoedibbpabW.PrintWords Go.Proofs.YtemoocoedibbpabW.PrintLast Go.Proofs.YtemoocoedibbpabW.PrintMore
attribute [local go_sem] max2_int min2_int max_two min_two max_three min_three max_four min_four
set_option linter.unusedVariables false
set_option linter.unusedSimpArgs false

/-! ### dactyllaw17_Light: function 28 -/
def dactyllaw17_Light.f (l0_0 : List (S47)) (a0_1 : Int) : Option (Bool) := some (decide ((l0_0.length : Int) ≤ 100))
set_option maxHeartbeats 8000000 in
set_option maxRecDepth 100000 in
theorem dactyllaw17_Light.calls (A0_0 : Option Addr) (c0_0 : Nat) (l0_0 : List (S47)) (a0_1 : Int) (r : Bool) (w : World) (hr0_0 : Kd.C k47 w A0_0 l0_0.length l0_0) (hc0_0 : l0_0.length ≤ c0_0) (h : dactyllaw17_Light.f l0_0 a0_1 = some r) :
    Calls Try.prog 28 #[.agg #[.slice A0_0 l0_0.length c0_0, .int .i64 a0_1]] w fun e w' => e = .returned (.bool r) ∧ Below w.heap.size w w' := by
  have hu24 := Try.underlying24
  have HR0_0 := Aside0.mk hr0_0
  have HC0_0 := Aside0.mk hc0_0
  clear hr0_0 hc0_0
  have HB := Aside0.mk (Below.refl w.heap.size w)
  have H : (some (decide ((l0_0.length : Int) ≤ 100))) = some r := h
  clear h
  obtain rfl := Option.some.inj H
  go_enter Try.func28, Try.ntmps28
  go_wp2_with (first | ((with_reducible refine gate_dst (N := 1) rfl ?_); refine box_event ?hg (N := 1) ?hd (cs := #[.slice A0_0 l0_0.length c0_0, .int .i64 a0_1]) (t := 24) ?hr ?_; (case hd => rfl); (case hg => rfl); (case hr => first | (go_simp; done) | (go_simp; rfl)); intro gb101 hg w2 hbox hb; have n0_ := Aside0.mk (below_step (by repeat (first | (with_reducible first | exact HB.out | apply below_alloc | apply pw_below_drewN | apply below_drew1) | exact HB.out)) hb); have n1_ := Aside0.mk (hbox); have n2_ := Aside0.mk ((by rw [hg]; exact (below_size (by repeat (first | (with_reducible first | exact HB.out | apply below_alloc | apply pw_below_drewN | apply below_drew1) | exact HB.out))) : w.heap.size ≤ gb101)); have n3_ := Aside0.mk ((by rw [hg]; exact (below_size (by repeat (first | (with_reducible first | exact HB.out | apply below_alloc | apply pw_below_drewN | apply below_drew1) | exact HB.out))) : w.heap.size ≤ gb101)); clear HB; have HB := n0_; have BK101 := n1_; have GW101 := n2_; have GE101 := n3_; clear n0_ n1_ n2_ n3_; clear hb hbox hg; have hcz3_0 : w2.cell? ⟨gb101, 0, none⟩ = some (.slice A0_0 l0_0.length c0_0) := (blk_cell BK101.out 0).trans rfl; have hcz3_1 : w2.cell? ⟨gb101, 1, none⟩ = some (.int .i64 a0_1) := (blk_cell BK101.out 1).trans rfl; have hfz3_0 := blk_frozen BK101.out 0; have hfz3_1 := blk_frozen BK101.out 1))
  go_ret
  exact ⟨by first | rfl | (simp [errW_none, errW_some] <;> rfl) | (simp [*, errW_none, errW_some] <;> rfl), by repeat (first | (with_reducible first | exact HB.out | apply below_alloc | apply pw_below_drewN | apply below_drew1 | refine below_set ?_ GE101.out) | exact HB.out)⟩

end Go.Proofs.Ytemoocoedibbpab.X

namespace Go.Proofs.Ytemoocoedibbpab.X
open Go.RowKit Go.Proofs.YtemoocoedibbpabW.PrintWords Go.Proofs.YtemoocoedibbpabW.PrintLast Go.Proofs.YtemoocoedibbpabW.PrintMore
attribute [local go_sem] max2_int min2_int max_two min_two max_three min_three max_four min_four
set_option linter.unusedVariables false
set_option linter.unusedSimpArgs false

/-! ### word_kinds: function 114 -/
set_option maxHeartbeats 4000000 in
theorem word_kinds.calls (A : Option Addr) (n c : Nat) (big : Bool) (w : World) :
    Calls Try.prog 114 #[.slice A n c, .bool big] w fun e w' => e = .returned (.func (.func 156) #[] #[.pointer (some ⟨w.heap.size, 0, none⟩), .pointer (some ⟨w.heap.size + 1, 0, none⟩)]) ∧ w' = (w.alloc (.cells #[.slice A n c] 22)).alloc (.cells #[.bool big] 4) := by
  go_enter Try.func114, Try.ntmps114
  go_wp2
  go_ret
  exact ⟨by first | rfl | (simp; done), rfl⟩
theorem run_store_func {P : Program} {w : World} (a : Addr) (m : Mode) (f : Fn) (ts : Array Value) (bs : Array Value) : (store a (.func f ts bs) m).run P w = stored P w a (.func f ts bs) m := run_store P w a _ m rfl
theorem blk3 (w : World) (a b c : Obj) : (((w.alloc a).alloc b).alloc c).heap[w.heap.size + 1 + 1]? = some c := by
  have := blk_new ((w.alloc a).alloc b) c
  rwa [World.size_alloc, World.size_alloc] at this
theorem blk2 (w : World) (a b : Obj) : ((w.alloc a).alloc b).heap[w.heap.size + 1]? = some b := by
  have := blk_new (w.alloc a) b
  rwa [World.size_alloc] at this
/-- What a function of kinds stands over: the list's box, 'big's, its own. -/
structure KindsI (b : Nat) (A : Option Addr) (n c : Nat) (W : World) : Prop where
  b0 : W.heap[b]? = some (.cells #[.slice A n c] 22 (0, 0))
  b1 : W.heap[b + 1]? = some (.cells #[.bool false] 4 (0, 0))
  b2 : W.heap[b + 1 + 1]? = some (.cells #[.func (.func 156) #[] #[.pointer (some ⟨b, 0, none⟩), .pointer (some ⟨b + 1, 0, none⟩)]] 95 (0, 0))
theorem KindsI.below {b : Nat} {A : Option Addr} {n c : Nat} {W W1 : World} (h : KindsI b A n c W) (hb : Below W.heap.size W W1) : KindsI b A n c W1 := ⟨blk_below h.b0 hb, blk_below h.b1 hb, blk_below h.b2 hb⟩
def kindsW (w : World) (A : Option Addr) (n c : Nat) : World := ((w.alloc (.cells #[.slice A n c] 22)).alloc (.cells #[.bool false] 4)).alloc (.cells #[.func (.func 156) #[] #[.pointer (some ⟨w.heap.size, 0, none⟩), .pointer (some ⟨w.heap.size + 1, 0, none⟩)]] 95)
theorem kindsI_made (w : World) (A : Option Addr) (n c : Nat) : KindsI w.heap.size A n c (kindsW w A n c) ∧ Below w.heap.size w (kindsW w A n c) := by
  refine ⟨⟨?_, ?_, ?_⟩, ?_⟩
  · exact blk_alloc (blk_alloc (blk_new w _) _) _
  · exact blk_alloc (blk2 w _ _) _
  · exact blk3 w _ _ _
  · exact below_alloc (below_alloc (below_alloc (Below.refl _ _) _) _) _

end Go.Proofs.Ytemoocoedibbpab.X

namespace Go.Proofs.Ytemoocoedibbpab.X
open Go.RowKit Go.Proofs.YtemoocoedibbpabW.PrintWords Go.Proofs.YtemoocoedibbpabW.PrintLast Go.Proofs.YtemoocoedibbpabW.PrintMore
attribute [local go_sem] max2_int min2_int max_two min_two max_three min_three max_four min_four
set_option linter.unusedVariables false
set_option linter.unusedSimpArgs false

/-! ### utf_point: function 141 -/
def utf_point.f (a0 : Int) : Option (Bool) := if a0 ≥ 0 then (if a0 ≤ 1114111 then (if a0 < 55296 then (some true) else (some (decide (a0 > 57343)))) else (some false)) else (some false)
set_option maxHeartbeats 8000000 in
set_option maxRecDepth 100000 in
theorem utf_point.calls (a0 : Int) (r : Bool) (w : World) (h : utf_point.f a0 = some r) :
    Calls Try.prog 141 #[.int .i64 a0] w fun e w' => e = .returned (.bool r) ∧ Drawn0 w w' := by
  have H : (if a0 ≥ 0 then (if a0 ≤ 1114111 then (if a0 < 55296 then (some true) else (some (decide (a0 > 57343)))) else (some false)) else (some false)) = some r := h
  clear h
  by_cases c2 : a0 ≥ 0
  · rw [if_pos c2] at H
    have c2b0 : decide (0 ≤ a0) = true := decide_eq_true c2
    clear c2
    by_cases c3 : a0 ≤ 1114111
    · rw [if_pos c3] at H
      have c3b0 : decide (a0 ≤ 1114111) = true := decide_eq_true c3
      clear c3
      by_cases c4 : a0 < 55296
      · rw [if_pos c4] at H
        have c4b0 : decide (a0 < 55296) = true := decide_eq_true c4
        clear c4
        obtain rfl := Option.some.inj H
        go_enter Try.func141, Try.ntmps141
        go_wp2
        go_ret
        exact ⟨by first | rfl | (simp; done) | (simp [*]; done), by repeat (first | exact Drawn0.refl _ | apply Drawn0.step)⟩
      · rw [if_neg c4] at H
        have c4b0 : decide (a0 < 55296) = false := decide_eq_false c4
        clear c4
        obtain rfl := Option.some.inj H
        go_enter Try.func141, Try.ntmps141
        go_wp2
        go_ret
        exact ⟨by first | rfl | (simp; done) | (simp [*]; done), by repeat (first | exact Drawn0.refl _ | apply Drawn0.step)⟩
    · rw [if_neg c3] at H
      have c3b0 : decide (a0 ≤ 1114111) = false := decide_eq_false c3
      clear c3
      obtain rfl := Option.some.inj H
      go_enter Try.func141, Try.ntmps141
      go_wp2
      go_ret
      exact ⟨by first | rfl | (simp; done) | (simp [*]; done), by repeat (first | exact Drawn0.refl _ | apply Drawn0.step)⟩
  · rw [if_neg c2] at H
    have c2b0 : decide (0 ≤ a0) = false := decide_eq_false c2
    clear c2
    obtain rfl := Option.some.inj H
    go_enter Try.func141, Try.ntmps141
    go_wp2
    go_ret
    exact ⟨by first | rfl | (simp; done) | (simp [*]; done), by repeat (first | exact Drawn0.refl _ | apply Drawn0.step)⟩

end Go.Proofs.Ytemoocoedibbpab.X

namespace Go.Proofs.Ytemoocoedibbpab.X
open Go.RowKit Go.Proofs.YtemoocoedibbpabW.PrintWords Go.Proofs.YtemoocoedibbpabW.PrintLast Go.Proofs.YtemoocoedibbpabW.PrintMore
attribute [local go_sem] max2_int min2_int max_two min_two max_three min_three max_four min_four
set_option linter.unusedVariables false
set_option linter.unusedSimpArgs false

/-! ### utf_Right: function 143 -/
def utf_Right.f (a0 : Int) : Option (Bool) := (utf_point.f a0).bind fun t101 => (if t101 = true then (some true) else (if a0 ≥ 1114240 then (some (decide (a0 ≤ 1114367))) else (some false)))
set_option maxHeartbeats 8000000 in
set_option maxRecDepth 100000 in
theorem utf_Right.calls (a0 : Int) (r : Bool) (w : World) (h : utf_Right.f a0 = some r) :
    Calls Try.prog 143 #[.int .i64 a0] w fun e w' => e = .returned (.bool r) ∧ Drawn0 w w' := by
  have H : ((utf_point.f a0).bind fun t101 => (if t101 = true then (some true) else (if a0 ≥ 1114240 then (some (decide (a0 ≤ 1114367))) else (some false)))) = some r := h
  clear h
  replace H := Option.bind_eq_some_iff.mp H
  obtain ⟨t101, A20, H⟩ := H
  replace H : (if t101 = true then (some true) else (if a0 ≥ 1114240 then (some (decide (a0 ≤ 1114367))) else (some false))) = some r := H
  have A2 := Aside0.mk A20
  clear A20
  by_cases c3 : t101 = true
  · subst c3
    have H1 : (some true) = some r := by rw [if_pos rfl] at H; exact H
    clear H
    have H := H1
    clear H1
    obtain rfl := Option.some.inj H
    go_enter Try.func143, Try.ntmps143
    go_wp2_with (first | ((with_reducible refine gate_callee (f := 141) rfl ?_); refine goesL_ (some 4) rfl rfl Try.func141 (by kernel_rfl) rfl #[.int .i64 a0] rfl (by (try simp only [List.map_toArray, List.map_cons, List.map_nil]); first | done | rfl | (simp only [List.length_drop, List.length_take]; rfl)) ?_; (with_reducible refine (utf_point.calls a0 true _ A2.out).mono ?_); rintro e w' ⟨rfl, ⟨nd, rfl⟩⟩; refine ⟨_, rfl, ?_⟩))
    go_ret
    exact ⟨by first | rfl | (simp; done) | (simp [*]; done), by repeat (first | exact Drawn0.refl _ | apply Drawn0.step)⟩
  · replace c3 := Bool.eq_false_iff.mpr c3
    subst c3
    have H1 : (if a0 ≥ 1114240 then (some (decide (a0 ≤ 1114367))) else (some false)) = some r := by rw [if_neg (show ¬ (false = true) by decide)] at H; exact H
    clear H
    have H := H1
    clear H1
    by_cases c4 : a0 ≥ 1114240
    · rw [if_pos c4] at H
      have c4b0 : decide (1114240 ≤ a0) = true := decide_eq_true c4
      clear c4
      obtain rfl := Option.some.inj H
      go_enter Try.func143, Try.ntmps143
      go_wp2_with (first | ((with_reducible refine gate_callee (f := 141) rfl ?_); refine goesL_ (some 4) rfl rfl Try.func141 (by kernel_rfl) rfl #[.int .i64 a0] rfl (by (try simp only [List.map_toArray, List.map_cons, List.map_nil]); first | done | rfl | (simp only [List.length_drop, List.length_take]; rfl)) ?_; (with_reducible refine (utf_point.calls a0 false _ A2.out).mono ?_); rintro e w' ⟨rfl, ⟨nd, rfl⟩⟩; refine ⟨_, rfl, ?_⟩))
      go_ret
      exact ⟨by first | rfl | (simp; done) | (simp [*]; done), by repeat (first | exact Drawn0.refl _ | apply Drawn0.step)⟩
    · rw [if_neg c4] at H
      have c4b0 : decide (1114240 ≤ a0) = false := decide_eq_false c4
      clear c4
      obtain rfl := Option.some.inj H
      go_enter Try.func143, Try.ntmps143
      go_wp2_with (first | ((with_reducible refine gate_callee (f := 141) rfl ?_); refine goesL_ (some 4) rfl rfl Try.func141 (by kernel_rfl) rfl #[.int .i64 a0] rfl (by (try simp only [List.map_toArray, List.map_cons, List.map_nil]); first | done | rfl | (simp only [List.length_drop, List.length_take]; rfl)) ?_; (with_reducible refine (utf_point.calls a0 false _ A2.out).mono ?_); rintro e w' ⟨rfl, ⟨nd, rfl⟩⟩; refine ⟨_, rfl, ?_⟩))
      go_ret
      exact ⟨by first | rfl | (simp; done) | (simp [*]; done), by repeat (first | exact Drawn0.refl _ | apply Drawn0.step)⟩

end Go.Proofs.Ytemoocoedibbpab.X

namespace Go.Proofs.Ytemoocoedibbpab.X
open Go.RowKit Go.Proofs.YtemoocoedibbpabW.PrintWords Go.Proofs.YtemoocoedibbpabW.PrintLast Go.Proofs.YtemoocoedibbpabW.PrintMore
attribute [local go_sem] max2_int min2_int max_two min_two max_three min_three max_four min_four
set_option linter.unusedVariables false
set_option linter.unusedSimpArgs false

/-- The place of the first element of which p holds, or -1. -/
def idxP {α : Type} (p : α → Bool) : List α → Int
  | [] => -1
  | x :: l => if p x then 0 else if idxP p l < 0 then -1 else idxP p l + 1
theorem idxP_ge {α : Type} (p : α → Bool) (l : List α) : -1 ≤ idxP p l ∧ idxP p l < l.length := by
  induction l with
  | nil => simp [idxP]
  | cons x l ih =>
    simp only [idxP, List.length_cons]
    split
    · omega
    · split <;> omega
theorem idxP_hit {α : Type} (p : α → Bool) (l : List α) (i : Nat) (hi : i < l.length) (h : p l[i] = true) (hb : ∀ j, (hj : j < i) → p (l[j]'(by omega)) = false) : idxP p l = i := by
  induction l generalizing i with
  | nil => simp at hi
  | cons x l ih =>
    cases i with
    | zero => simp at h; simp [idxP, h]
    | succ i =>
      have h0 := hb 0 (by omega)
      simp at h0
      have := ih i (by simpa using hi) (by simpa using h) (fun j hj => by simpa using hb (j + 1) (by omega))
      simp [idxP, h0, this]
      omega
theorem idxP_miss {α : Type} (p : α → Bool) (l : List α) (h : ∀ j, (hj : j < l.length) → p l[j] = false) : idxP p l = -1 := by
  induction l with
  | nil => rfl
  | cons x l ih =>
    have h0 := h 0 (by simp)
    simp at h0
    have := ih (fun j hj => by have := h (j + 1) (by simpa using hj); rwa [List.getElem_cons_succ] at this)
    simp [idxP, h0, this]
theorem enters_fn {f : FuncId} {fn : Func} {c : Code} (hf : Try.prog.funcs[f]? = some fn) (hname : (fn.name == "runtime.NumGoroutine") = false) (hb : fn.body = some c) : ∀ args w, (callFunc f args).run Try.prog w = .ok (.enter f args) w := by
  intro args w
  have h1 : fn.name ≠ "runtime.NumGoroutine" := by simpa using hname
  simp [callFunc, hf, h1, hb, mark]
theorem idxP_any {α : Type} (p : α → Bool) (l : List α) : l.any p = decide (0 ≤ idxP p l) := by
  induction l with
  | nil => rfl
  | cons x l ih =>
    have hg := idxP_ge p l
    cases h : p x
    · simp only [idxP, h, List.any_cons, Bool.false_or, ih]
      by_cases h' : idxP p l < 0
      · simp [h'] <;> omega
      · simp [h'] <;> omega
    · simp [idxP, h]
/-- What is asked of a predicate that is handed over: at every value, in every world that holds what w held. -/
def PredFor {α : Type} (g : Nat) (lb : Array Value) (enc : α → Value) (p : α → Bool) (w : World) : Prop :=
  ∀ (W : World) (x : α), Below w.heap.size w W → Calls Try.prog g (#[enc x] ++ lb) W fun e w' => e = .returned (.bool (p x)) ∧ Below w.heap.size w w'
/-- Are two lists as long, and does p hold of each two? -/
def eqP {α β : Type} (p : α → β → Bool) : List α → List β → Bool
  | [], [] => true
  | x :: xs, y :: ys => p x y && eqP p xs ys
  | _, _ => false
theorem eqP_len {α β : Type} (p : α → β → Bool) (l : List α) (m : List β) (h : l.length ≠ m.length) : eqP p l m = false := by
  induction l generalizing m with
  | nil => cases m <;> simp_all [eqP]
  | cons x l ih =>
    cases m with
    | nil => rfl
    | cons y m => simp [eqP, ih m (by simpa using h)]
theorem eqP_all {α β : Type} (p : α → β → Bool) (l : List α) (m : List β) (hl : l.length = m.length) (h : ∀ j, (h1 : j < l.length) → (h2 : j < m.length) → p l[j] m[j] = true) : eqP p l m = true := by
  induction l generalizing m with
  | nil => cases m <;> simp_all [eqP]
  | cons x l ih =>
    cases m with
    | nil => simp at hl
    | cons y m =>
      have h0 := h 0 (by simp) (by simp)
      simp at h0
      simp only [eqP, h0, Bool.true_and]
      exact ih m (by simpa using hl) (fun j h1 h2 => by have := h (j + 1) (by simpa using h1) (by simpa using h2); rwa [List.getElem_cons_succ, List.getElem_cons_succ] at this)
theorem eqP_not {α β : Type} (p : α → β → Bool) (l : List α) (m : List β) (j : Nat) (h1 : j < l.length) (h2 : j < m.length) (h : p l[j] m[j] = false) : eqP p l m = false := by
  induction l generalizing m j with
  | nil => simp at h1
  | cons x l ih =>
    cases m with
    | nil => simp at h2
    | cons y m =>
      cases j with
      | zero => simp at h; simp [eqP, h]
      | succ j => simp [eqP, ih m j (by simpa using h1) (by simpa using h2) (by simpa using h)]
def Pred2For {α β : Type} (g : Nat) (lb : Array Value) (enc : α → Value) (enc' : β → Value) (p : α → β → Bool) (w : World) : Prop :=
  ∀ (W : World) (x : α) (y : β), Below w.heap.size w W → Calls Try.prog g (#[enc x, enc' y] ++ lb) W fun e w' => e = .returned (.bool (p x y)) ∧ Below w.heap.size w w'

end Go.Proofs.Ytemoocoedibbpab.X

namespace Go.Proofs.Ytemoocoedibbpab.X
open Go.RowKit Go.Proofs.YtemoocoedibbpabW.PrintWords Go.Proofs.YtemoocoedibbpabW.PrintLast Go.Proofs.YtemoocoedibbpabW.PrintMore
attribute [local go_sem] max2_int min2_int max_two min_two max_three min_three max_four min_four
set_option linter.unusedVariables false
set_option linter.unusedSimpArgs false

/-! ### IndexFunc_Sign: function 164 -/
def enc_Sign (x : S47) : Value := .agg #[.int .i64 x.f0, .int .i64 x.f1]
set_option maxHeartbeats 4000000 in
theorem IndexFunc_Sign.calls (p : S47 → Bool) (g : Nat) (lb : Array Value) (eg : ∀ args w, (callFunc g args).run Try.prog w = .ok (.enter g args) w) (A0 : Option Addr) (c0 : Nat) (l0 : List S47) (w : World) (hr0 : Kd.C k47 w A0 l0.length l0) (hn : l0.length ≤ 9223372036854775807)
    (hp : PredFor g lb enc_Sign p w) :
    Calls Try.prog 164 #[.slice A0 l0.length c0, .func (.func g) #[] lb] w fun e w' => e = .returned (.int .i64 (idxP p l0)) ∧ Below w.heap.size w w' := by
  have HR := Aside0.mk hr0
  have HP := Aside0.mk hp
  clear hr0 hp
  have hu := Try.underlying47
  go_enter Try.func164, Try.ntmps164
  go_wp2
  go_loopg [5, 8] l0.length (fun gg _ s8 wr => ∃ kk : Nat, kk ≤ l0.length ∧ l0.length - kk ≤ gg ∧ s8 = .int .i64 kk ∧ Aside0 (Below w.heap.size w wr) ∧ Aside0 (∀ j, (hj : j < l0.length) → j < kk → p l0[j] = false))
  case atStart => exact ⟨0, Nat.zero_le _, by omega, rfl, ⟨Below.refl _ w⟩, ⟨fun j _ hj => absurd hj (Nat.not_lt_zero _)⟩⟩
  case round =>
    obtain ⟨kk, hkk, hg, rfl, BW, A⟩ := hrel
    by_cases hlt : kk < l0.length
    · have hlt1 : decide ((kk : Int) < (l0.length : Int)) = true := decide_eq_true (by omega)
      have hlt2 : decide (kk < l0.length) = true := decide_eq_true hlt
      obtain ⟨ad, e, h0, h1⟩ := at_T47 (Kd.C_below HR.out BW.out) (kk : Int) (by omega) (by omega)
      cases e
      have ex : rd_T47 l0 (kk : Int) = l0[kk] := by simp [rd_T47, List.getD, hlt]
      rw [ex] at h0 h1
      simp only [Int.toNat_natCast] at h0 h1
      have hcall := HP.out wr l0[kk] BW.out
      generalize hy : l0[kk] = y at h0 h1 hcall
      have B := Aside0.mk hy
      clear hy ex
      cases hq : p y with
      | true =>
        rw [hq] at hcall
        have HQ := Aside0.mk hq
        clear hq
        unfold enc_Sign at hcall
        go_wp2_with ((with_reducible refine hcall.mono ?_); rintro e w' ⟨rfl, hb'⟩)
        go_ret
        refine ⟨?_, hb'⟩
        rw [idxP_hit p l0 kk hlt (by rw [B.out]; exact HQ.out) (fun j hj => A.out j (by omega) hj)]
        rfl
      | false =>
        rw [hq] at hcall
        have HQ := Aside0.mk hq
        clear hq
        unfold enc_Sign at hcall
        go_wp2_with ((with_reducible refine hcall.mono ?_); rintro e w' ⟨rfl, hb'⟩)
        go_roundg (l0.length - (kk + 1))
        case measure => omega
        case rel =>
          refine ⟨kk + 1, by omega, by omega, by go_num, ⟨hb'⟩, ⟨fun j hj1 hj => ?_⟩⟩
          by_cases e : j = kk
          · subst e
            rw [B.out]; exact HQ.out
          · exact A.out j hj1 (by omega)
    · have hlt1 : decide ((kk : Int) < (l0.length : Int)) = false := decide_eq_false (by omega)
      have hlt2 : decide (kk < l0.length) = false := decide_eq_false hlt
      go_wp2
      go_ret
      refine ⟨?_, BW.out⟩
      rw [idxP_miss p l0 (fun j hj => A.out j hj (by omega))]
      rfl

end Go.Proofs.Ytemoocoedibbpab.X

namespace Go.Proofs.Ytemoocoedibbpab.X
open Go.RowKit Go.Proofs.YtemoocoedibbpabW.PrintWords Go.Proofs.YtemoocoedibbpabW.PrintLast Go.Proofs.YtemoocoedibbpabW.PrintMore
attribute [local go_sem] max2_int min2_int max_two min_two max_three min_three max_four min_four
set_option linter.unusedVariables false
set_option linter.unusedSimpArgs false

/-! ### ContainsFunc_Sign: function 144 -/
set_option maxHeartbeats 4000000 in
theorem ContainsFunc_Sign.calls (p : S47 → Bool) (g : Nat) (lb : Array Value) (eg : ∀ args w, (callFunc g args).run Try.prog w = .ok (.enter g args) w) (A0 : Option Addr) (c0 : Nat) (l0 : List S47) (w : World) (hr0 : Kd.C k47 w A0 l0.length l0) (hn : l0.length ≤ 9223372036854775807)
    (hp : PredFor g lb enc_Sign p w) :
    Calls Try.prog 144 #[.slice A0 l0.length c0, .func (.func g) #[] lb] w fun e w' => e = .returned (.bool (l0.any p)) ∧ Below w.heap.size w w' := by
  have HC := Aside0.mk (IndexFunc_Sign.calls p g lb eg A0 c0 l0 w hr0 hn hp)
  clear hr0 hp eg
  have hA := Aside0.mk (idxP_any p l0)
  obtain ⟨hi0, hi1⟩ := idxP_ge p l0
  generalize idxP p l0 = i at hi0 hi1 HC hA
  go_enter Try.func144, Try.ntmps144
  go_wp2_with ((with_reducible refine HC.out.mono ?_); rintro e w1 ⟨rfl, hb⟩)
  go_ret
  exact ⟨by rw [hA.out]; rfl, hb⟩

end Go.Proofs.Ytemoocoedibbpab.X

namespace Go.Proofs.Ytemoocoedibbpab.X
open Go.RowKit Go.Proofs.YtemoocoedibbpabW.PrintWords Go.Proofs.YtemoocoedibbpabW.PrintLast Go.Proofs.YtemoocoedibbpabW.PrintMore
attribute [local go_sem] max2_int min2_int max_two min_two max_three min_three max_four min_four
set_option linter.unusedVariables false
set_option linter.unusedSimpArgs false

/-! ### sign_Right: function 146 -/
def sign_Right.f (a0_0 : Int) (a0_1 : Int) : Option (Bool) := (utf_Right.f a0_0).bind fun t102 => (if t102 = true then (if a0_1 ≥ 0 then (some (decide (a0_1 ≤ 5))) else (some false)) else (some false))
set_option maxHeartbeats 8000000 in
set_option maxRecDepth 100000 in
theorem sign_Right.calls (a0_0 : Int) (a0_1 : Int) (r : Bool) (w : World) (h : sign_Right.f a0_0 a0_1 = some r) :
  Calls Try.prog 146 #[.agg #[.int .i64 a0_0, .int .i64 a0_1]] w fun e w' => e = .returned (.bool r) ∧ Below w.heap.size w w' := by
 have hu47 := Try.underlying47
 have HB := Aside0.mk (Below.refl w.heap.size w)
 have H : ((utf_Right.f a0_0).bind fun t102 => (if t102 = true then (if a0_1 ≥ 0 then (some (decide (a0_1 ≤ 5))) else (some false)) else (some false))) = some r := h
 clear h
 replace H := Option.bind_eq_some_iff.mp H
 obtain ⟨t102, A20, H⟩ := H
 try dsimp only at H
 have A2 := Aside0.mk A20
 clear A20
 by_cases c3 : t102 = true
 ·subst c3
  have H1 : (if a0_1 ≥ 0 then (some (decide (a0_1 ≤ 5))) else (some false)) = some r := by rw [if_pos rfl] at H; exact H
  clear H
  have H := H1
  clear H1
  by_cases c4 : a0_1 ≥ 0
  ·rw [if_pos c4] at H
   have c4b0 : decide (0 ≤ a0_1) = true := decide_eq_true c4
   clear c4
   obtain rfl := Option.some.inj H
   go_enter Try.func146, Try.ntmps146
   go_wp2_with (first | ((with_reducible refine gate_dst (N := 1) rfl ?_); refine box_event ?hg (N := 1) ?hd (cs := #[.int .i64 a0_0, .int .i64 a0_1]) (t := 47) ?hr ?_; (case hd => rfl); (case hg => rfl); (case hr => first | (go_simp; done) | (go_simp; rfl)); intro gb101 hg w5 hbox hb; have BK101 := a0 (hbox); have GW101 := a0 ((by rw [hg]; exact (below_size HB.out) : w.heap.size ≤ gb101)); have GE101 := a0 ((by rw [hg]; exact (below_size HB.out) : w.heap.size ≤ gb101)); replace HB := a0 (below_step HB.out hb); clear hb hbox hg; obtain ⟨hcz6_0, hcz6_1, hfz6_0, hfz6_1⟩ := c2 BK101.out) | ((with_reducible refine gate_callee (f := 143) rfl ?_); refine gL (some 5) Try.func143 (by kernel_rfl) #[.int .i64 a0_0] rfl rfl rfl rfl rfl ?_; (with_reducible refine (utf_Right.calls a0_0 true _ A2.out).mono ?_); rintro e w' ⟨rfl, ⟨nd, rfl⟩⟩; refine ⟨_, rfl, ?_⟩))
   go_ret
   exact ⟨by first | rfl | (simp [errW_none, errW_some] <;> rfl) | (simp [*, errW_none, errW_some] <;> rfl), by repeat (first | (with_reducible first | exact HB.out | apply below_alloc | apply pw_below_drewN | apply below_drew1 | refine below_set ?_ GE101.out) | exact HB.out)⟩
  ·rw [if_neg c4] at H
   have c4b0 : decide (0 ≤ a0_1) = false := decide_eq_false c4
   clear c4
   obtain rfl := Option.some.inj H
   go_enter Try.func146, Try.ntmps146
   go_wp2_with (first | ((with_reducible refine gate_dst (N := 1) rfl ?_); refine box_event ?hg (N := 1) ?hd (cs := #[.int .i64 a0_0, .int .i64 a0_1]) (t := 47) ?hr ?_; (case hd => rfl); (case hg => rfl); (case hr => first | (go_simp; done) | (go_simp; rfl)); intro gb101 hg w7 hbox hb; have BK101 := a0 (hbox); have GW101 := a0 ((by rw [hg]; exact (below_size HB.out) : w.heap.size ≤ gb101)); have GE101 := a0 ((by rw [hg]; exact (below_size HB.out) : w.heap.size ≤ gb101)); replace HB := a0 (below_step HB.out hb); clear hb hbox hg; obtain ⟨hcz8_0, hcz8_1, hfz8_0, hfz8_1⟩ := c2 BK101.out) | ((with_reducible refine gate_callee (f := 143) rfl ?_); refine gL (some 5) Try.func143 (by kernel_rfl) #[.int .i64 a0_0] rfl rfl rfl rfl rfl ?_; (with_reducible refine (utf_Right.calls a0_0 true _ A2.out).mono ?_); rintro e w' ⟨rfl, ⟨nd, rfl⟩⟩; refine ⟨_, rfl, ?_⟩))
   go_ret
   exact ⟨by first | rfl | (simp [errW_none, errW_some] <;> rfl) | (simp [*, errW_none, errW_some] <;> rfl), by repeat (first | (with_reducible first | exact HB.out | apply below_alloc | apply pw_below_drewN | apply below_drew1 | refine below_set ?_ GE101.out) | exact HB.out)⟩
 ·replace c3 := Bool.eq_false_iff.mpr c3
  subst c3
  have H1 : (some false) = some r := by rw [if_neg (show ¬ (false = true) by decide)] at H; exact H
  clear H
  have H := H1
  clear H1
  obtain rfl := Option.some.inj H
  go_enter Try.func146, Try.ntmps146
  go_wp2_with (first | ((with_reducible refine gate_dst (N := 1) rfl ?_); refine box_event ?hg (N := 1) ?hd (cs := #[.int .i64 a0_0, .int .i64 a0_1]) (t := 47) ?hr ?_; (case hd => rfl); (case hg => rfl); (case hr => first | (go_simp; done) | (go_simp; rfl)); intro gb101 hg w9 hbox hb; have BK101 := a0 (hbox); have GW101 := a0 ((by rw [hg]; exact (below_size HB.out) : w.heap.size ≤ gb101)); have GE101 := a0 ((by rw [hg]; exact (below_size HB.out) : w.heap.size ≤ gb101)); replace HB := a0 (below_step HB.out hb); clear hb hbox hg; obtain ⟨hcz10_0, hcz10_1, hfz10_0, hfz10_1⟩ := c2 BK101.out) | ((with_reducible refine gate_callee (f := 143) rfl ?_); refine gL (some 5) Try.func143 (by kernel_rfl) #[.int .i64 a0_0] rfl rfl rfl rfl rfl ?_; (with_reducible refine (utf_Right.calls a0_0 false _ A2.out).mono ?_); rintro e w' ⟨rfl, ⟨nd, rfl⟩⟩; refine ⟨_, rfl, ?_⟩))
  go_ret
  exact ⟨by first | rfl | (simp [errW_none, errW_some] <;> rfl) | (simp [*, errW_none, errW_some] <;> rfl), by repeat (first | (with_reducible first | exact HB.out | apply below_alloc | apply pw_below_drewN | apply below_drew1 | refine below_set ?_ GE101.out) | exact HB.out)⟩

end Go.Proofs.Ytemoocoedibbpab.X

namespace Go.Proofs.Ytemoocoedibbpab.X
open Go.RowKit Go.Proofs.YtemoocoedibbpabW.PrintWords Go.Proofs.YtemoocoedibbpabW.PrintLast Go.Proofs.YtemoocoedibbpabW.PrintMore
attribute [local go_sem] max2_int min2_int max_two min_two max_three min_three max_four min_four
set_option linter.unusedVariables false
set_option linter.unusedSimpArgs false

/-! ### sign_Check: function 105 -/
theorem sign_Right_some (a b : Int) : ∃ r, sign_Right.f a b = some r := by
  unfold sign_Right.f utf_Right.f utf_point.f
  repeat' (first | exact ⟨_, rfl⟩ | split | simp only [Option.bind_some])
def badSign (s : S47) : Bool := !((sign_Right.f s.f0 s.f1).getD false)
def sign_Check.f (l0 : List S47) : Option Int := some (if l0.any badSign = true then 2 else 0)
set_option maxHeartbeats 4000000 in
theorem sign_Check_1.calls (x : S47) (W : World) :
    Calls Try.prog 145 #[enc_Sign x] W fun e w' => e = .returned (.bool (badSign x)) ∧ Below W.heap.size W w' := by
  have hu := Try.underlying47
  unfold enc_Sign badSign
  obtain ⟨a, b⟩ := x
  dsimp only
  obtain ⟨r, hr⟩ := sign_Right_some a b
  rw [hr]
  have HR := Aside0.mk hr
  clear hr
  go_enter Try.func145, Try.ntmps145
  go_wp2_with fail
  refine (sign_Right.calls a b r _ HR.out).mono ?_
  rintro e w1 ⟨rfl, hb⟩
  go_wp2
  go_ret
  exact ⟨rfl, below_step (below_alloc (Below.refl _ _) _) hb⟩
set_option maxHeartbeats 4000000 in
theorem sign_Check.calls (A0 : Option Addr) (c0 : Nat) (l0 : List S47) (r : Int) (w : World) (hr0 : Kd.C k47 w A0 l0.length l0) (hc0 : l0.length ≤ c0) (h : sign_Check.f l0 = some r) :
    Calls Try.prog 105 #[.slice A0 l0.length c0] w fun e w' => e = .returned (.int .i64 r) ∧ Below w.heap.size w w' := by
  have hE := Option.some.inj h
  have HC := Aside0.mk (ContainsFunc_Sign.calls badSign _ #[] (enters_fn Try.func145 (by kernel_rfl) rfl) A0 c0 l0 w hr0 hr0.2.1 (fun W x hb => (sign_Check_1.calls x W).mono fun e w' ⟨he, hb'⟩ => ⟨he, below_step hb hb'⟩))
  clear hr0 h
  generalize l0.any badSign = b at hE HC
  cases b
  all_goals
    simp only [if_true, if_false, Bool.false_eq_true] at hE
    subst hE
    go_enter Try.func105, Try.ntmps105
    go_wp2_with fail
    refine HC.out.mono ?_
    rintro e w1 ⟨rfl, hb⟩
    go_wp2
    go_ret
    exact ⟨rfl, hb⟩

end Go.Proofs.Ytemoocoedibbpab.X

namespace Go.Proofs.Ytemoocoedibbpab.X
open Go.RowKit Go.Proofs.YtemoocoedibbpabW.PrintWords Go.Proofs.YtemoocoedibbpabW.PrintLast Go.Proofs.YtemoocoedibbpabW.PrintMore
attribute [local go_sem] max2_int min2_int max_two min_two max_three min_three max_four min_four
set_option linter.unusedVariables false
set_option linter.unusedSimpArgs false

/-! ### line_Right: function 57 -/
def line_Right.f (l0_0 : List (S47)) (a0_1 : Int) : Option (Bool) := if a0_1 ≥ 0 then (if a0_1 ≤ (l0_0.length : Int) then ((sign_Check.f l0_0).bind fun t102 => (some (t102 == 0))) else (some false)) else (some false)
set_option maxHeartbeats 8000000 in
set_option maxRecDepth 100000 in
theorem line_Right.calls (A0_0 : Option Addr) (c0_0 : Nat) (l0_0 : List (S47)) (a0_1 : Int) (r : Bool) (w : World) (hr0_0 : Kd.C k47 w A0_0 l0_0.length l0_0) (hc0_0 : l0_0.length ≤ c0_0) (h : line_Right.f l0_0 a0_1 = some r) :
  Calls Try.prog 57 #[.agg #[.slice A0_0 l0_0.length c0_0, .int .i64 a0_1]] w fun e w' => e = .returned (.bool r) ∧ Below w.heap.size w w' := by
 have hu24 := Try.underlying24
 have HR0_0 := Aside0.mk hr0_0
 have HC0_0 := Aside0.mk hc0_0
 clear hr0_0 hc0_0
 have HB := Aside0.mk (Below.refl w.heap.size w)
 have H : (if a0_1 ≥ 0 then (if a0_1 ≤ (l0_0.length : Int) then ((sign_Check.f l0_0).bind fun t102 => (some (t102 == 0))) else (some false)) else (some false)) = some r := h
 clear h
 by_cases c2 : a0_1 ≥ 0
 ·rw [if_pos c2] at H
  have c2b0 : decide (0 ≤ a0_1) = true := decide_eq_true c2
  clear c2
  by_cases c3 : a0_1 ≤ (l0_0.length : Int)
  ·rw [if_pos c3] at H
   have c3b0 : decide (a0_1 ≤ (l0_0.length : Int)) = true := decide_eq_true c3
   clear c3
   replace H := Option.bind_eq_some_iff.mp H
   obtain ⟨t102, A40, H⟩ := H
   try dsimp only at H
   have A4 := Aside0.mk A40
   clear A40
   obtain rfl := Option.some.inj H
   go_enter Try.func57, Try.ntmps57
   go_wp2_with (first | ((with_reducible refine gate_dst (N := 1) rfl ?_); (try (refine gate_guard (by rfl) ?_; dsimp only)); refine box_event ?hg (N := 1) ?hd (cs := #[.slice A0_0 l0_0.length c0_0, .int .i64 a0_1]) (t := 24) ?hr ?_; (case hd => rfl); (case hg => rfl); (case hr => first | (go_simp; done) | (go_simp; rfl)); intro gb101 hg w5 hbox hb; have BK101 := a0 (hbox); have GW101 := a0 ((by rw [hg]; exact (below_size HB.out) : w.heap.size ≤ gb101)); have GE101 := a0 ((by rw [hg]; exact (below_size HB.out) : w.heap.size ≤ gb101)); replace HB := a0 (below_step HB.out hb); clear hb hbox hg; obtain ⟨hcz6_0, hcz6_1, hfz6_0, hfz6_1⟩ := c2 BK101.out) | (go_at_call 105; (with_reducible refine (sign_Check.calls _ _ l0_0 t102 _ ?side1 ?side2 A4.out).mono ?_); (case side1 => repeat (first | exact (Kd.C_below HR0_0.out HB.out) | (with_reducible refine Kd.C_alloc ?_ _) | (with_reducible refine Kd.C_drewN ?_ _) | (with_reducible refine Kd.C_drew ?_))); (case side2 => exact HC0_0.out); rintro e w7 ⟨rfl, hb⟩; replace BK101 := a0 (bB hb BK101.out); replace HB := a0 (below_step HB.out hb); (try clear hb); (try clear hb2); (try clear hk); (try clear hi)))
   go_ret
   exact ⟨by first | rfl | (simp [errW_none, errW_some] <;> rfl) | (simp [*, errW_none, errW_some] <;> rfl), by repeat (first | (with_reducible first | exact HB.out | apply below_alloc | apply pw_below_drewN | apply below_drew1 | refine below_set ?_ GE101.out) | exact HB.out)⟩
  ·rw [if_neg c3] at H
   have c3b0 : decide (a0_1 ≤ (l0_0.length : Int)) = false := decide_eq_false c3
   clear c3
   obtain rfl := Option.some.inj H
   go_enter Try.func57, Try.ntmps57
   go_wp2_with (first | ((with_reducible refine gate_dst (N := 1) rfl ?_); (try (refine gate_guard (by rfl) ?_; dsimp only)); refine box_event ?hg (N := 1) ?hd (cs := #[.slice A0_0 l0_0.length c0_0, .int .i64 a0_1]) (t := 24) ?hr ?_; (case hd => rfl); (case hg => rfl); (case hr => first | (go_simp; done) | (go_simp; rfl)); intro gb101 hg w8 hbox hb; have BK101 := a0 (hbox); have GW101 := a0 ((by rw [hg]; exact (below_size HB.out) : w.heap.size ≤ gb101)); have GE101 := a0 ((by rw [hg]; exact (below_size HB.out) : w.heap.size ≤ gb101)); replace HB := a0 (below_step HB.out hb); clear hb hbox hg; obtain ⟨hcz9_0, hcz9_1, hfz9_0, hfz9_1⟩ := c2 BK101.out))
   go_ret
   exact ⟨by first | rfl | (simp [errW_none, errW_some] <;> rfl) | (simp [*, errW_none, errW_some] <;> rfl), by repeat (first | (with_reducible first | exact HB.out | apply below_alloc | apply pw_below_drewN | apply below_drew1 | refine below_set ?_ GE101.out) | exact HB.out)⟩
 ·rw [if_neg c2] at H
  have c2b0 : decide (0 ≤ a0_1) = false := decide_eq_false c2
  clear c2
  obtain rfl := Option.some.inj H
  go_enter Try.func57, Try.ntmps57
  go_wp2_with (first | ((with_reducible refine gate_dst (N := 1) rfl ?_); (try (refine gate_guard (by rfl) ?_; dsimp only)); refine box_event ?hg (N := 1) ?hd (cs := #[.slice A0_0 l0_0.length c0_0, .int .i64 a0_1]) (t := 24) ?hr ?_; (case hd => rfl); (case hg => rfl); (case hr => first | (go_simp; done) | (go_simp; rfl)); intro gb101 hg w10 hbox hb; have BK101 := a0 (hbox); have GW101 := a0 ((by rw [hg]; exact (below_size HB.out) : w.heap.size ≤ gb101)); have GE101 := a0 ((by rw [hg]; exact (below_size HB.out) : w.heap.size ≤ gb101)); replace HB := a0 (below_step HB.out hb); clear hb hbox hg; obtain ⟨hcz11_0, hcz11_1, hfz11_0, hfz11_1⟩ := c2 BK101.out))
  go_ret
  exact ⟨by first | rfl | (simp [errW_none, errW_some] <;> rfl) | (simp [*, errW_none, errW_some] <;> rfl), by repeat (first | (with_reducible first | exact HB.out | apply below_alloc | apply pw_below_drewN | apply below_drew1 | refine below_set ?_ GE101.out) | exact HB.out)⟩

end Go.Proofs.Ytemoocoedibbpab.X

namespace Go.Proofs.Ytemoocoedibbpab.X
open Go.RowKit Go.Proofs.YtemoocoedibbpabW.PrintWords Go.Proofs.YtemoocoedibbpabW.PrintLast Go.Proofs.YtemoocoedibbpabW.PrintMore
attribute [local go_sem] max2_int min2_int max_two min_two max_three min_three max_four min_four
set_option linter.unusedVariables false
set_option linter.unusedSimpArgs false

theorem info47 : (Try.prog.info? 47).map (fun i => (i.zero, i.size, i.bytes)) = some (some (.agg #[(.int .i64 0), (.int .i64 0)]), 2, 16) := by kernel_rfl
end Go.Proofs.Ytemoocoedibbpab.X

namespace Go.Proofs.Ytemoocoedibbpab.X
open Go.RowKit Go.Proofs.YtemoocoedibbpabW.PrintWords Go.Proofs.YtemoocoedibbpabW.PrintLast Go.Proofs.YtemoocoedibbpabW.PrintMore
attribute [local go_sem] max2_int min2_int max_two min_two max_three min_three max_four min_four
set_option linter.unusedVariables false
set_option linter.unusedSimpArgs false

/-! ### Clone_Sign: function 58 -/
def Clone_Sign.f (l0 : List S47) : Option (List S47) := if l0.length < 8796093022208 then some l0 else none
set_option maxHeartbeats 8000000 in
set_option maxRecDepth 100000 in
theorem Clone_Sign.calls (A0 : Option Addr) (c0 : Nat) (l0 : List S47) (r : List S47) (w : World) (hr0 : Kd.C k47 w A0 l0.length l0) (hc0 : l0.length ≤ c0) (h : Clone_Sign.f l0 = some r) :
    Calls Try.prog 58 #[.slice A0 l0.length c0] w fun e w' => ∃ v0_ : Value, e = .returned (v0_) ∧ Kd.R k47 47 w' w.heap.size (fun _ => True) v0_ r ∧ Below w.heap.size w w' := by
  have HR0 := Aside0.mk hr0
  unfold Clone_Sign.f at h
  by_cases c3 : l0.length < 8796093022208
  · rw [if_pos c3] at h
    obtain rfl := Option.some.inj h
    have LMc3 := Aside0.mk c3
    clear c3 h
    cases A0 with
    | none =>
      have hl : l0 = [] := by
        by_cases hp : 0 < l0.length
        · obtain ⟨a, e, _⟩ := hr0.2.2 hp
          cases e
        · exact List.length_eq_zero_iff.1 (by omega)
      subst hl
      clear hr0 hc0
      have hq : ∀ w, (binOp .eql 22 (.slice none 0 c0) (.slice none 0 0)).run Try.prog w = .ok (.bool true) w := fun w => Go.Lib.run_eql_slice_nil w _ 47 none _ _ _ _ Try.underlying22
      go_enter Try.func58, Try.ntmps58
      go_wp2
      go_ret
      exact ⟨_, rfl, Kd.R_nil _ _ _ _ _, Below.refl _ _⟩
    | some a =>
      clear hr0 hc0
      have hq : ∀ w, (binOp .eql 22 (.slice (some a) l0.length c0) (.slice none 0 0)).run Try.prog w = .ok (.bool false) w := fun w => Go.Lib.run_eql_slice_nil w _ 47 (some a) _ _ _ _ Try.underlying22
      have HB := Aside0.mk (Below.refl w.heap.size w)
      have NIL := Aside0.mk (rfl : ([] : List S47) ++ l0 = l0)
      go_enter Try.func58, Try.ntmps58
      go_wp2_with (first | ((with_reducible refine gate_dst (N := 5) rfl ?_); refine Kd.R_lit k47 _ 47 ?hg (N := 5) ?hd (xs := ([] : List S47)) (inner := []) (ok := fun _ => True) (okp := fun _ => True) ?hr ?hp (fun _ hk => hk) trivial (Below.refl _ _) (Nat.le_refl _) (by simp) ?_; (case hd => rfl); (case hg => rfl); (case hr => first | (go_simp; done) | (go_simp; rfl)); (case hp => exact (Reps.none _ _)); intro v102 w5 ho6 hb hg_ hnew_; clear hg_ hnew_; (first | skip | (simp only [Int.reduceToNat] at ho6)); have n0_ := Aside0.mk (Kd.R_lower ho6 HB.out.size); have n1_ := Aside0.mk (below_step HB.out hb); clear HB; have HO103 := n0_; have HB := n1_; clear n0_ n1_; clear hb ho6) | ((with_reducible refine gate_builtin (b := .append) (xs := #[.tmp 5, .tmp 6]) rfl ?_); at_builtin; refine Kd.R_append_rows k47 (w0 := w) w.heap.size rfl (.tmp 5) (.tmp 6) 22 47 (.agg #[(.int .i64 0), (.int .i64 0)]) 16 rfl Try.underlying22 info47 rfl (by decide) (by omega) v102 ([] : List S47) l0 _ _ _ (fun _ => True) (fun _ => False) rfl rfl ?aO ?aR (fun _ _ h => h) (fun _ h => h.elim) ?aF ?aB ?aS ?aL ?_; (case aR => exact (Kd.C_below HR0.out HB.out)); (case aB => exact HB.out); (case aF => exact (fun _ _ => trivial)); (case aO => exact HO103.out); (case aS => exact HB.out.size); (case aL => have := LMc3.out; simp only [List.length_nil]; omega); intro v105 w7 ho hb hg hat; have n0_ := Aside0.mk (hb); have n1_ := Aside0.mk (ho); clear HB; clear HO103; have HB := n0_; have HO106 := n1_; clear n0_ n1_; clear ho hb hg hat))
      go_ret
      exact ⟨_, rfl, HO106.out, HB.out⟩
  · rw [if_neg c3] at h
    cases h

end Go.Proofs.Ytemoocoedibbpab.X

namespace Go.Proofs.Ytemoocoedibbpab.X
open Go.RowKit Go.Proofs.YtemoocoedibbpabW.PrintWords Go.Proofs.YtemoocoedibbpabW.PrintLast Go.Proofs.YtemoocoedibbpabW.PrintMore
attribute [local go_sem] max2_int min2_int max_two min_two max_three min_three max_four min_four
set_option linter.unusedVariables false
set_option linter.unusedSimpArgs false

/-! ### line_copied: function 70 -/
def line_copied.f (l0_0 : List (S47)) (a0_1 : Int) : Option ((List (S47)) × Int) := (Clone_Sign.f l0_0).bind fun t103 => (some (t103, a0_1))
set_option maxHeartbeats 8000000 in
set_option maxRecDepth 100000 in
theorem line_copied.calls (A0_0 : Option Addr) (c0_0 : Nat) (l0_0 : List (S47)) (a0_1 : Int) (r1 : List (S47)) (r2 : Int) (w : World) (hr0_0 : Kd.C k47 w A0_0 l0_0.length l0_0) (hc0_0 : l0_0.length ≤ c0_0) (h : line_copied.f l0_0 a0_1 = some (r1, r2)) :
  Calls Try.prog 70 #[.agg #[.slice A0_0 l0_0.length c0_0, .int .i64 a0_1]] w fun e w' => ∃ v0_ : Value, e = .returned (.agg #[v0_, .int .i64 r2]) ∧ Kd.R k47 47 w' w.heap.size (fun _ => True) v0_ r1 ∧ Below w.heap.size w w' := by
 have hu24 := Try.underlying24
 have HR0_0 := Aside0.mk hr0_0
 have HC0_0 := Aside0.mk hc0_0
 clear hr0_0 hc0_0
 have HB := Aside0.mk (Below.refl w.heap.size w)
 have H : ((Clone_Sign.f l0_0).bind fun t103 => (some (t103, a0_1))) = some (r1, r2) := h
 clear h
 replace H := Option.bind_eq_some_iff.mp H
 obtain ⟨t103, A20, H⟩ := H
 try dsimp only at H
 have A2 := Aside0.mk A20
 clear A20
 simp only [Option.some.injEq, Prod.mk.injEq] at H
 obtain ⟨rfl, rfl⟩ := H
 go_enter Try.func70, Try.ntmps70
 try go_wp2_with (first | ((with_reducible refine gate_dst (N := 1) rfl ?_); refine box_event ?hg (N := 1) ?hd (cs := #[.slice A0_0 l0_0.length c0_0, .int .i64 a0_1]) (t := 24) ?hr ?_; (case hd => rfl); (case hg => rfl); (case hr => first | (go_simp; done) | (go_simp; rfl)); intro gb101 hg w3 hbox hb; have BK101 := a0 (hbox); have GW101 := a0 ((by rw [hg]; exact (below_size HB.out) : w.heap.size ≤ gb101)); have GE101 := a0 ((by rw [hg]; exact (below_size HB.out) : w.heap.size ≤ gb101)); replace HB := a0 (below_step HB.out hb); clear hb hbox hg) | ((with_reducible refine gate_dst (N := 2) rfl ?_); refine box_event ?hg (N := 2) ?hd (cs := #[.slice none 0 0, .int .i64 0]) (t := 24) ?hr ?_; (case hd => rfl); (case hg => rfl); (case hr => first | (go_simp; done) | (go_simp; rfl)); intro gb102 hg w4 hbox hb; have BK102 := a0 (hbox); have GW102 := a0 ((by rw [hg]; exact (below_size HB.out) : w.heap.size ≤ gb102)); have GE102 := a0 ((by rw [hg]; exact (below_size HB.out) : w.heap.size ≤ gb102)); replace HB := a0 (below_step HB.out hb); have NB101_102 := a0 ((by rw [hg]; exact Nat.ne_of_lt (blk_lt BK101.out) : gb101 ≠ gb102)); have NB102_101 := a0 ((by rw [hg]; exact Nat.ne_of_gt (blk_lt BK101.out) : gb102 ≠ gb101)); replace BK101 := a0 (bB hb BK101.out); clear hb hbox hg))
 replace BK101 := a0 (blk_drew BK101.out)
 replace BK102 := a0 (blk_drew BK102.out)
 replace HB := a0 (below_drew1 HB.out)
 refine start_ (n := 7) (S := fun w' => w'.cell? ⟨gb101, 0, none⟩ = some (.slice A0_0 l0_0.length c0_0) ∧ w'.cell? ⟨gb101, 1, none⟩ = some (.int .i64 a0_1)) (ds := []) (ba 7 0) (by kernel_rfl) rfl rfl ⟨(blk_cell BK101.out 0).trans rfl, (blk_cell BK101.out 1).trans rfl⟩ (fun hHeld => ?_)
 generalize w4.drew = w5 at BK101 BK102 HB hHeld ⊢
 refine pure_ (i := 0) (N := some 3) (v := ?_) (a' := ?_) (ba 7 1) rfl rfl (by kernel_rfl) (fun _ _ _ h => h) (Or.inl ⟨by rfl, ?_⟩) ?_ ?_
 rotate_left
 ·intro w'
  go_simp
  with_reducible rfl
 rotate_left
 ·simp only [Act.put, List.setIfInBounds_toArray, List.set_cons_zero, List.set_cons_succ, i64_w, i32_w]
  rfl
 refine pure_ (i := 3) (N := some 6) (v := ?_) (a' := ?_) (ba 7 9) rfl rfl (by kernel_rfl) (fun _ _ _ h => h) (Or.inl ⟨by rfl, ?_⟩) ?_ ?_
 rotate_left
 ·intro w'
  go_simp
  with_reducible rfl
 rotate_left
 ·simp only [Act.put, List.setIfInBounds_toArray, List.set_cons_zero, List.set_cons_succ, i64_w, i32_w]
  rfl
 refine take_ (i := 1) (N := some 4) (v := ?_) (a' := ?_) (ba 7 11) rfl rfl (by kernel_rfl) (fun _ _ _ h => h) (Or.inl ⟨by rfl, ?_⟩) hHeld ?_ ?_; rotate_left; (rintro w' ⟨s0, s1⟩; go_simp; with_reducible rfl); rotate_left; (simp only [Act.put, List.setIfInBounds_toArray, List.set_cons_zero, List.set_cons_succ, i64_w, i32_w]; rfl)
 refine take_ (i := 4) (N := some 7) (v := ?_) (a' := ?_) (ba 7 27) rfl rfl (by kernel_rfl) (fun _ _ _ h => h) (Or.inl ⟨by rfl, ?_⟩) hHeld ?_ ?_; rotate_left; (rintro w' ⟨s0, s1⟩; go_simp; with_reducible rfl); rotate_left; (simp only [Act.put, List.setIfInBounds_toArray, List.set_cons_zero, List.set_cons_succ, i64_w, i32_w]; rfl)
 refine one_ (i := 2) (N := some 5) (ba 7 31) rfl rfl (by kernel_rfl) (by decide) (fun K hK => ?_)
 refine gR Try.func58 (by kernel_rfl) #[.slice A0_0 l0_0.length c0_0] (by rfl) rfl rfl rfl rfl ?_
 with_reducible refine (Clone_Sign.calls _ _ l0_0 t103 _ ?side1 ?side2 A2.out).mono ?_
 (case side1 => repeat (first | exact (Kd.C_below HR0_0.out HB.out) | (with_reducible refine Kd.C_alloc ?_ _) | (with_reducible refine Kd.C_drewN ?_ _) | (with_reducible refine Kd.C_drew ?_)))
 (case side2 => exact HC0_0.out)
 rintro e w6 ⟨v104, rfl, ho0, hb⟩
 refine ⟨_, rfl, ?_⟩
 have HO105 := a0 (Kd.R_lower ho0 (below_size HB.out))
 replace BK101 := a0 (bB hb BK101.out)
 replace BK102 := a0 (bB hb BK102.out)
 replace HB := a0 (below_step HB.out hb)
 (try clear hb)
 (try clear hb2)
 (try clear hk)
 (try clear hi)
 (try clear ho0)
 obtain ⟨Ao7, co7, eo7⟩ := Kd.R_slice HO105.out
 (first | subst eo7 | (injection eo7 with f1_ f2_ f3_; have f4_ := f1_.symm; have f5_ := f3_.symm; clear f1_ f2_ f3_; subst f4_; subst f5_))
 refine hK.out _ _ ⟨(blk_cell BK101.out 0).trans rfl, (blk_cell BK101.out 1).trans rfl⟩ (fun hHeld => ?_)
 clear hK K
 refine norm_ (a' := ?_) ?_ ?_; rotate_left; (show Act.put _ (some 5) _ = _; simp only [Act.put, List.setIfInBounds_toArray, List.set_cons_zero, List.set_cons_succ, i64_w, i32_w]; rfl)
 refine pure_ (i := 5) (N := some 8) (v := ?_) (a' := ?_) (ba 7 63) rfl rfl (by kernel_rfl) (fun _ _ _ h => h) (Or.inl ⟨by rfl, ?_⟩) ?_ ?_
 rotate_left
 ·intro w'
  go_simp
  with_reducible rfl
 rotate_left
 ·simp only [Act.put, List.setIfInBounds_toArray, List.set_cons_zero, List.set_cons_succ, i64_w, i32_w]
  rfl
 refine one_ (i := 6) (N := none) (ba 7 127) rfl rfl (by kernel_rfl) (by decide) (fun K hK => ?_)
 have hs8 : w6.cell? ⟨gb102, 0, none⟩ = some (.slice none 0 0) := (blk_cell BK102.out 0).trans rfl
 have hfs8 := blk_frozen BK102.out 0
 have hns8_0 := NB101_102.out
 have hms8_0 := NB102_101.out
 have hs9 : w6.cell? ⟨gb102, 1, none⟩ = some (.int .i64 0) := (blk_cell BK102.out 1).trans rfl
 have hfs9 := blk_frozen BK102.out 1
 have hns9_0 := NB101_102.out
 have hms9_0 := NB102_101.out
 refine skip_ (w1 := ?_) (by rfl) rfl ?_ ?_
 rotate_left
 ·go_simp
  rfl
 refine hK.out _ _ ⟨((cell_far (p := ⟨gb102, _, none⟩) NB101_102.out _).trans (((cell_far (p := ⟨gb102, _, none⟩) NB101_102.out _).trans (hHeld.1)))), ((cell_far (p := ⟨gb102, _, none⟩) NB101_102.out _).trans (((cell_far (p := ⟨gb102, _, none⟩) NB101_102.out _).trans (hHeld.2))))⟩ (fun hHeld => ?_)
 clear hK K
 refine done_ (by kernel_rfl) ?_
 try go_wp2
 refine bodyPost_ret (results_cell_row rfl _ _ gb102 24 #[.slice Ao7 t103.length co7, .int .i64 a0_1] (0, 0) _ rfl (by refine blk_put (cs := #[.slice Ao7 t103.length co7, .int .i64 0]) ?_ 1 _ rfl; refine blk_put (cs := #[.slice none 0 0, .int .i64 0]) ?_ 0 _ rfl; exact BK102.out) Try.underlying24 rfl (by kernel_rfl)) rfl ?_
 exact ⟨_, by first | rfl | (simp [errW_none, errW_some] <;> rfl) | (simp [*, errW_none, errW_some] <;> rfl), by exact Kd.R_mono (Kd.R_far (p := ⟨gb102, 1, none⟩) (Kd.R_far (p := ⟨gb102, 0, none⟩) (Kd.R_types HO105.out BK102.out (by decide)) (fun _ hk => hk.2) (.slice Ao7 t103.length co7)) (fun _ hk => hk.2) (.int .i64 a0_1)) (fun _ hk => trivial), by repeat (first | (with_reducible first | exact HB.out | apply below_alloc | apply pw_below_drewN | apply below_drew1 | refine below_set ?_ GE101.out | refine below_set ?_ GE102.out) | exact HB.out)⟩

end Go.Proofs.Ytemoocoedibbpab.X

namespace Go.Proofs.Ytemoocoedibbpab.X
open Go.RowKit Go.Proofs.YtemoocoedibbpabW.PrintWords Go.Proofs.YtemoocoedibbpabW.PrintLast Go.Proofs.YtemoocoedibbpabW.PrintMore
attribute [local go_sem] max2_int min2_int max_two min_two max_three min_three max_four min_four
set_option linter.unusedVariables false
set_option linter.unusedSimpArgs false

/-- A store into an element of a row of one's own: what the machine does, and what the row is then. -/
theorem run_R_store {α : Type} (d : Kd α) {P : Program} {W : World} {base : Nat} {e g n cap : Nat} (t : TypeId) (i : Int) (j : Nat) (xs : List α) (x' : α) (u : Value) (seg c : List Value) (ok okp : Nat → Prop)
    (hu : u.cells.toList = seg) (ht : (P.info? t).map (·.size) = some seg.length) (h1 : ∀ q ∈ seg, q.oneCell' = true) (HO : d.R e W base ok (.slice (some ⟨g, 0, none⟩) n cap) xs) (h0 : 0 ≤ i) (hi : i < n) (hcl : c.length = d.sz)
    (hcc : ∀ j u, c[j]? = some u → W.cell? ⟨g, i.toNat * d.sz + j, none⟩ = some u) (hj : j + seg.length ≤ d.sz) (hM : d.M W base okp x' (c.take j ++ seg ++ c.drop (j + seg.length))) (hokp : ∀ k, okp k → ok k ∧ k ≠ g) :
    (Instr.storeAt t (.pointer (some ⟨g, i.toNat * d.sz + j, none⟩)) u).run P W = .ok () (W.setCells g (i.toNat * d.sz + j) seg) ∧ d.R e (W.setCells g (i.toNat * d.sz + j) seg) base ok (.slice (some ⟨g, 0, none⟩) n cap) (xs.set i.toNat x') ∧ W.grownBy (W.setCells g (i.toNat * d.sz + j) seg) (some g) := by
  obtain ⟨hrow, hg⟩ := Kd.R_seg HO i h0 hi hcl hcc hj hM hokp
  have hnx : n = xs.length := (Kd.R_reads' HO).1
  obtain ⟨_, inner, hown, hr⟩ := HO
  have hil : i.toNat < n := by omega
  refine ⟨?_, hrow, hg⟩
  rcases hown.2 with ⟨hv, _⟩ | ⟨g', cap', cur, hv, hb, hh, hnc, hcm, hcs, _⟩
  · cases hv
  injection hv with ha _ hc
  injection ha with ha
  injection ha with hg'
  subst hg'; subst hc
  refine run_store_run t u seg hh hu ht ?_ h1
  have h2 : i.toNat * d.sz + d.sz ≤ n * d.sz := by rw [← Nat.succ_mul]; exact Nat.mul_le_mul_right _ hil
  have h3 : n * d.sz ≤ cap * d.sz := Nat.mul_le_mul_right _ (by omega)
  omega
/-- A row of one's own that has elements lies at the beginning of a block. -/
theorem R_atn {α : Type} {d : Kd α} {e : Nat} {W : World} {base : Nat} {ok : Nat → Prop} {v : Value} {xs : List α} (h : d.R e W base ok v xs) (n : Nat) (hn : xs.length = n) (hp : 0 < n) : ∃ g cap, v = .slice (some ⟨g, 0, none⟩) n cap ∧ base ≤ g ∧ ok g ∧ ∃ cur, W.heap[g]? = some (.cells cur e (0, 0)) := by
  subst hn
  obtain ⟨h0, inner, ho, hr⟩ := h
  rcases ho.2 with ⟨rfl, hn⟩ | ⟨g, cap, cur, rfl, hg, hh, _⟩
  · omega
  · exact ⟨g, cap, rfl, hg, h0 g rfl, cur, hh⟩
theorem R_at {α : Type} {d : Kd α} {e : Nat} {W : World} {base : Nat} {ok : Nat → Prop} {v : Value} {xs : List α} (h : d.R e W base ok v xs) (hp : 0 < xs.length) : ∃ g cap, v = .slice (some ⟨g, 0, none⟩) xs.length cap ∧ base ≤ g ∧ ok g ∧ ∃ cur, W.heap[g]? = some (.cells cur e (0, 0)) := by
  obtain ⟨h0, inner, ho, hr⟩ := h
  rcases ho.2 with ⟨rfl, hn⟩ | ⟨g, cap, cur, rfl, hg, hh, _⟩
  · omega
  · exact ⟨g, cap, rfl, hg, h0 g rfl, cur, hh⟩
theorem skip_store {P : Program} {ops : Array Oper} {Q : Exit → Act → World → Prop} {oi : Oper} {a : Act} {w w1 : World} {K : Act → World → Prop} (t : TypeId) (p x : Operand) (addr u : Value) (hw : Region.wanted oi (yielded ops a.tmps) = true) (hN : oi.dst = none) (ho : oi.op = .store t p x) (haddr : a.eval p = addr) (hx : a.eval x = u)
    (hrun : (Instr.storeAt t addr u).run P w = .ok () w1) (h : K a w1) : if Region.wanted oi (yielded ops a.tmps) = true then Oper.wp P oi a w K Q else K (a.put none undef) w := by
  refine skip_ hw hN ?_ h
  unfold execOp
  simp only [ho, haddr, hx, Sem.run_bind, Sem.run_pure, Result.andThen_ok, hrun]

end Go.Proofs.Ytemoocoedibbpab.X

namespace Go.Proofs.Ytemoocoedibbpab.X
open Go.RowKit Go.Proofs.YtemoocoedibbpabW.PrintWords Go.Proofs.YtemoocoedibbpabW.PrintLast Go.Proofs.YtemoocoedibbpabW.PrintMore
attribute [local go_sem] max2_int min2_int max_two min_two max_three min_three max_four min_four
set_option linter.unusedVariables false
set_option linter.unusedSimpArgs false

/-- The value of a sign of one's own is stored. -/
theorem sign_storeV {W : World} {base g n cap : Nat} {ok : Nat → Prop} {xs : List S47} (HO : Kd.R k47 47 W base ok (.slice (some ⟨g, 0, none⟩) n cap) xs) (i : Int) (h0 : 0 ≤ i) (hi : i < n) (v : Int) (ht : (Try.prog.info? 3).map (·.size) = some 1) :
    (Instr.storeAt 3 (.pointer (some ⟨g, i.toNat * 2, none⟩)) (.int .i64 v)).run Try.prog W = .ok () (W.setCells g (i.toNat * 2) [.int .i64 v]) ∧ Kd.R k47 47 (W.setCells g (i.toNat * 2) [.int .i64 v]) base ok (.slice (some ⟨g, 0, none⟩) n cap) (xs.set i.toNat ⟨v, (rd_T47 xs i).f1⟩) ∧ W.grownBy (W.setCells g (i.toNat * 2) [.int .i64 v]) (some g) := by
  obtain ⟨ad, e, x0, x1⟩ := at_T47 (by obtain ⟨A, c, e, _, hr⟩ := Kd.R_reads HO; injection e with e1 e2 _; subst e1; rw [← e2] at hr; exact hr) i h0 hi
  injection e with e
  subst e
  have ea : (⟨g, 0, none⟩ : Addr).add (i.toNat * 2) = ⟨g, i.toNat * 2, none⟩ := by unfold Addr.add; by_cases hz : i.toNat * 2 = 0 <;> simp [hz]
  rw [ea] at x0 x1
  exact run_R_store k47 3 i 0 xs ⟨v, (rd_T47 xs i).f1⟩ (.int .i64 v) [.int .i64 v] [.int .i64 (rd_T47 xs i).f0, .int .i64 (rd_T47 xs i).f1] ok (fun _ => False) rfl ht (by simp [Value.oneCell']) HO h0 hi rfl
    (fun j u hj => by
      match j, hj with
      | 0, hj => simp at hj; subst hj; exact x0
      | 1, hj => simp at hj; subst hj; exact x1
      | j + 2, hj => simp at hj) (by show 0 + 1 ≤ 2; omega) (k47_mkM _ _ _ (⟨v, (rd_T47 xs i).f1⟩ : S47)) (fun _ h => h.elim)
/-- A sign of one's own is stored. -/
theorem sign_storeS {W : World} {base g n cap : Nat} {ok : Nat → Prop} {xs : List S47} (HO : Kd.R k47 47 W base ok (.slice (some ⟨g, 0, none⟩) n cap) xs) (i : Int) (h0 : 0 ≤ i) (hi : i < n) (x : S47) (ht : (Try.prog.info? 47).map (·.size) = some 2) :
    (Instr.storeAt 47 (.pointer (some ⟨g, i.toNat * 2, none⟩)) (.agg #[.int .i64 x.f0, .int .i64 x.f1])).run Try.prog W = .ok () (W.setCells g (i.toNat * 2) [.int .i64 x.f0, .int .i64 x.f1]) ∧ Kd.R k47 47 (W.setCells g (i.toNat * 2) [.int .i64 x.f0, .int .i64 x.f1]) base ok (.slice (some ⟨g, 0, none⟩) n cap) (xs.set i.toNat x) ∧ W.grownBy (W.setCells g (i.toNat * 2) [.int .i64 x.f0, .int .i64 x.f1]) (some g) := by
  obtain ⟨ad, e, x0, x1⟩ := at_T47 (by obtain ⟨A, c, e, _, hr⟩ := Kd.R_reads HO; injection e with e1 e2 _; subst e1; rw [← e2] at hr; exact hr) i h0 hi
  injection e with e
  subst e
  have ea : (⟨g, 0, none⟩ : Addr).add (i.toNat * 2) = ⟨g, i.toNat * 2, none⟩ := by unfold Addr.add; by_cases hz : i.toNat * 2 = 0 <;> simp [hz]
  rw [ea] at x0 x1
  exact run_R_store k47 47 i 0 xs x (.agg #[.int .i64 x.f0, .int .i64 x.f1]) [.int .i64 x.f0, .int .i64 x.f1] [.int .i64 (rd_T47 xs i).f0, .int .i64 (rd_T47 xs i).f1] ok (fun _ => False) rfl ht (by simp [Value.oneCell']) HO h0 hi rfl
    (fun j u hj => by
      match j, hj with
      | 0, hj => simp at hj; subst hj; exact x0
      | 1, hj => simp at hj; subst hj; exact x1
      | j + 2, hj => simp at hj) (by show 0 + 2 ≤ 2; omega) (k47_mkM _ _ _ x) (fun _ h => h.elim)
theorem sign_at {W : World} {base g n cap : Nat} {ok : Nat → Prop} {xs : List S47} (HO : Kd.R k47 47 W base ok (.slice (some ⟨g, 0, none⟩) n cap) xs) (i : Int) (h0 : 0 ≤ i) (hi : i < n) :
    W.cell? ⟨g, i.toNat * 2, none⟩ = some (.int .i64 (rd_T47 xs i).f0) ∧ W.cell? ⟨g, i.toNat * 2 + 1, none⟩ = some (.int .i64 (rd_T47 xs i).f1) := by
  obtain ⟨ad, e, x0, x1⟩ := at_T47 (by obtain ⟨A, c, e, _, hr⟩ := Kd.R_reads HO; injection e with e1 e2 _; subst e1; rw [← e2] at hr; exact hr) i h0 hi
  injection e with e
  subst e
  have ea : (⟨g, 0, none⟩ : Addr).add (i.toNat * 2) = ⟨g, i.toNat * 2, none⟩ := by unfold Addr.add; by_cases hz : i.toNat * 2 = 0 <;> simp [hz]
  rw [ea] at x0 x1
  exact ⟨x0, x1⟩

end Go.Proofs.Ytemoocoedibbpab.X

namespace Go.Proofs.Ytemoocoedibbpab.X
open Go.RowKit Go.Proofs.YtemoocoedibbpabW.PrintWords Go.Proofs.YtemoocoedibbpabW.PrintLast Go.Proofs.YtemoocoedibbpabW.PrintMore
attribute [local go_sem] max2_int min2_int max_two min_two max_three min_three max_four min_four
set_option linter.unusedVariables false
set_option linter.unusedSimpArgs false

/-! ### line_Swap: function 30 -/
/-- Two signs of which the latter is at a place change places. -/
def swapL (l : List S47) (i : Int) : List S47 := (l.set (i - 1).toNat (rd_T47 l i)).set i.toNat (rd_T47 l (i - 1))
def swI (n : Nat) (at_ : Int) : Int := if (n : Int) - 1 < at_ then (n : Int) - 1 else at_
def line_Swap.f (l0 : List S47) (a0_1 : Int) : Option (List S47 × Int × Bool) :=
 if l0.length < 1000000000000 then (line_Right.f l0 a0_1).bind fun b => if b = true then (if a0_1 = 0 then some (l0, a0_1, false) else if l0.length < 2 then some (l0, a0_1, false) else some (swapL l0 (swI l0.length a0_1), swI l0.length a0_1 + 1, true)) else some (l0, a0_1, false) else none
structure SwapI (w : World) (b4 : Nat) (A : Option Addr) (c : Nat) (l : List S47) (at_ : Int) (W : World) (v : Value) (xs : List S47) : Prop where
 b : W.heap[w.heap.size]? = some (.cells #[.slice A l.length c, .int .i64 at_] 24 (0, 0))
 z : W.heap[w.heap.size + 1]? = some (.cells #[.slice none 0 0, .int .i64 0] 24 (0, 0))
 o : W.heap[b4]? = some (.cells #[v, .int .i64 at_] 24 (0, 0))
 row : Kd.R k47 47 W w.heap.size (fun _ => True) v xs
 bel : Below w.heap.size w W
 lt : w.heap.size + 1 < b4
theorem SwapI.below {w : World} {b4 : Nat} {A : Option Addr} {c : Nat} {l : List S47} {at_ : Int} {W W1 : World} {v : Value} {xs : List S47} (h : SwapI w b4 A c l at_ W v xs) (hb : Below W.heap.size W W1) : SwapI w b4 A c l at_ W1 v xs :=
 ⟨blk_below h.b hb, blk_below h.z hb, blk_below h.o hb, Kd.R_below h.row hb, below_step h.bel hb, h.lt⟩
theorem SwapI.stored {w : World} {b4 : Nat} {A : Option Addr} {c : Nat} {l : List S47} {at_ : Int} {W W1 : World} {g cap n : Nat} {xs ys : List S47} (h : SwapI w b4 A c l at_ W (.slice (some ⟨g, 0, none⟩) n cap) xs) (hr : Kd.R k47 47 W1 w.heap.size (fun _ => True) (.slice (some ⟨g, 0, none⟩) n cap) ys) (hg : W.grownBy W1 (some g)) : SwapI w b4 A c l at_ W1 (.slice (some ⟨g, 0, none⟩) n cap) ys := by
 have st : ∀ {q t : Nat} {cs : Array Value}, W.heap[q]? = some (Obj.cells cs t (0, 0)) → 47 ≠ t → W1.heap[q]? = some (Obj.cells cs t (0, 0)) := fun hq ht => blk_grown hq hg (fun he => by have := Kd.R_ne h.row hq ht; simp [Value.ownBlock] at this; injection he with he; exact this he)
 refine ⟨st h.b (by decide), st h.z (by decide), st h.o (by decide), hr, h.bel.grown hg h.bel.size (fun j hj => ?_), h.lt⟩
 injection hj with hj
 subst hj
 exact Kd.R_base h.row _ (by simp [Value.ownBlock])
def line_Swap.T6 : Bool × List (List Nat × List Nat) := (true, [([], []), ([0], [0]), ([], []), ([2], [2]), ([], []), ([4], [4]), ([], []), ([], []), ([7], [7]), ([], []), ([8, 9], [8, 9]), ([10], [10]), ([], []), ([12], [12]), ([], []), ([14], [14]), ([13, 15], [13, 15]), ([16], [16]), ([1, 3, 0, 1, 2, 3, 7, 8, 9, 10, 11, 17], [1, 3]), ([18, 11, 0, 1, 2, 3, 7, 8, 9, 10, 11, 17], [11, 18]), ([5, 6, 0, 1, 2, 3, 4, 5, 6, 7, 8, 9, 10, 11, 12, 13, 14, 15, 16, 17, 18, 19], [5, 6]), ([20, 17, 19, 0, 1, 2, 3, 4, 5, 6, 7, 8, 9, 10, 11, 12, 13, 14, 15, 16, 17, 18, 19], [17, 20])])
def line_Swap.B6 : List Nat := [0, 1, 0, 4, 0, 16, 0, 0, 128, 0, 896, 1920, 0, 4096, 0, 16384, 61440, 126976, 262031, 524175, 1048575, 2097151]
theorem line_Swap.tab6 : rtab .any (opsOf Try.f30 6) = line_Swap.T6 := by kernel_rfl
theorem line_Swap.bits6 : waitsOk line_Swap.T6.2 line_Swap.B6 = true := by kernel_rfl
set_option maxHeartbeats 8000000 in
set_option maxRecDepth 100000 in
theorem line_Swap.calls (A0 : Option Addr) (c0 : Nat) (l0 : List S47) (a0_1 : Int) (r1 : List S47) (r2 : Int) (r3 : Bool) (w : World) (hr0 : Kd.C k47 w A0 l0.length l0) (hc0 : l0.length ≤ c0) (h : line_Swap.f l0 a0_1 = some (r1, r2, r3)) :
  Calls Try.prog 30 #[.agg #[.slice A0 l0.length c0, .int .i64 a0_1]] w fun e w' => ∃ v0_ : Value, e = .returned (.tuple #[.agg #[v0_, .int .i64 r2], .bool r3]) ∧ Kd.R k47 47 w' w.heap.size (fun _ => True) v0_ r1 ∧ Below w.heap.size w w' := by
 have hu := Try.underlying24
 unfold line_Swap.f at h
 by_cases hl : l0.length < 1000000000000
 ·rw [if_pos hl] at h
  obtain ⟨b, h1, h⟩ := Option.bind_eq_some_iff.mp h
  have H1 := Aside0.mk h1
  have HR := Aside0.mk hr0
  have HC := Aside0.mk hc0
  have HL := Aside0.mk hl
  have B0 := Aside0.mk (blk_alloc (blk_new w (.cells #[.slice A0 l0.length c0, .int .i64 a0_1] 24)) (.cells #[.slice none 0 0, .int .i64 0] 24))
  have BZ := Aside0.mk (blk2 w (.cells #[.slice A0 l0.length c0, .int .i64 a0_1] 24) (.cells #[.slice none 0 0, .int .i64 0] 24))
  have HB := Aside0.mk (below_alloc (below_alloc (Below.refl w.heap.size w) (.cells #[.slice A0 l0.length c0, .int .i64 a0_1] 24)) (.cells #[.slice none 0 0, .int .i64 0] 24))
  have HH := Aside0.mk h
  clear h1 hr0 hc0 hl h
  go_enter Try.func30, Try.ntmps30
  go_wp2_with fail
  generalize ((w.alloc (.cells #[.slice A0 l0.length c0, .int .i64 a0_1] 24)).alloc (.cells #[.slice none 0 0, .int .i64 0] 24)) = W0 at B0 BZ HB ⊢
  refine (line_copied.calls A0 c0 l0 a0_1 l0 a0_1 _ (Kd.C_below HR.out HB.out) HC.out (by unfold line_copied.f Clone_Sign.f; rw [if_pos (by have := HL.out; omega)]; rfl)).mono ?_
  rintro _ w2 ⟨v, rfl, hro, hb⟩
  obtain ⟨Av, cv, rfl⟩ := Kd.R_slice hro
  have HI := Aside0.mk (show SwapI w w2.heap.size A0 c0 l0 a0_1 (w2.alloc (.cells #[.slice Av l0.length cv, .int .i64 a0_1] 24)) (.slice Av l0.length cv) l0 from
   ⟨blk_alloc (blk_below B0.out hb) _, blk_alloc (blk_below BZ.out hb) _, blk_new _ _, Kd.R_alloc (Kd.R_lower hro HB.out.size) _, below_alloc (below_step HB.out hb) _, Nat.lt_of_lt_of_le (blk_lt BZ.out) hb.size⟩)
  clear hb hro B0 BZ HB
  have b0 : (w2.alloc (.cells #[.slice Av l0.length cv, .int .i64 a0_1] 24)).cell? ⟨w.heap.size, 0, none⟩ = some (.slice A0 l0.length c0) := (blk_cell HI.out.b 0).trans rfl
  have b1 : (w2.alloc (.cells #[.slice Av l0.length cv, .int .i64 a0_1] 24)).cell? ⟨w.heap.size, 1, none⟩ = some (.int .i64 a0_1) := (blk_cell HI.out.b 1).trans rfl
  go_wp2_with fail
  generalize (w2.alloc (.cells #[.slice Av l0.length cv, .int .i64 a0_1] 24)) = W1 at HI b0 b1 ⊢
  refine (line_Right.calls A0 c0 l0 a0_1 b _ (Kd.C_below HR.out HI.out.bel) HC.out H1.out).mono ?_
  rintro _ w3 ⟨rfl, hb⟩
  have HI2 := Aside0.mk (HI.out.below hb)
  clear HI hb b0 b1
  have b0 : w3.cell? ⟨w.heap.size, 0, none⟩ = some (.slice A0 l0.length c0) := (blk_cell HI2.out.b 0).trans rfl
  have b1 : w3.cell? ⟨w.heap.size, 1, none⟩ = some (.int .i64 a0_1) := (blk_cell HI2.out.b 1).trans rfl
  cases b with
  | false =>
   have h := HH.out
   rw [if_neg (by decide)] at h
   simp only [Option.some.injEq, Prod.mk.injEq] at h
   obtain ⟨rfl, rfl, rfl⟩ := h
   have o0 : w3.cell? ⟨w2.heap.size, 0, none⟩ = some (.slice Av l0.length cv) := (blk_cell HI2.out.o 0).trans rfl
   have o1 : w3.cell? ⟨w2.heap.size, 1, none⟩ = some (.int .i64 a0_1) := (blk_cell HI2.out.o 1).trans rfl
   have z0 : w3.cell? ⟨w.heap.size + 1, 0, none⟩ = _ := (blk_cell HI2.out.z 0).trans rfl
   have z1 : w3.cell? ⟨w.heap.size + 1, 1, none⟩ = _ := (blk_cell HI2.out.z 1).trans rfl
   have f0 := blk_frozen HI2.out.z 0
   have f1 := blk_frozen HI2.out.z 1
   go_wp2
   refine bodyPost_ret (results_ct rfl _ _ (w.heap.size + 1) 24 #[.slice Av l0.length cv, .int .i64 a0_1] (0, 0) _ rfl (by refine blk_put (cs := #[.slice Av l0.length cv, .int .i64 0]) ?_ 1 _ rfl; refine blk_put (cs := #[.slice none 0 0, .int .i64 0]) ?_ 0 _ rfl; exact HI2.out.z) Try.underlying24 rfl (by kernel_rfl)) rfl ?_
   exact ⟨_, rfl, Kd.R_set (Kd.R_set HI2.out.row HI2.out.z (by decide) 0 _) (blk_put HI2.out.z 0 _ rfl) (by decide) 1 _, below_set (below_set HI2.out.bel (Nat.le_succ _)) (Nat.le_succ _)⟩
  | true =>
   have h := HH.out
   rw [if_pos rfl] at h
   by_cases ca : a0_1 = 0
   ·rw [if_pos ca] at h
    simp only [Option.some.injEq, Prod.mk.injEq] at h
    obtain ⟨rfl, rfl, rfl⟩ := h
    have ea : (a0_1 == 0) = true := beq_iff_eq.mpr ca
    clear ca
    have o0 : w3.cell? ⟨w2.heap.size, 0, none⟩ = some (.slice Av l0.length cv) := (blk_cell HI2.out.o 0).trans rfl
    have o1 : w3.cell? ⟨w2.heap.size, 1, none⟩ = some (.int .i64 a0_1) := (blk_cell HI2.out.o 1).trans rfl
    have z0 : w3.cell? ⟨w.heap.size + 1, 0, none⟩ = _ := (blk_cell HI2.out.z 0).trans rfl
    have z1 : w3.cell? ⟨w.heap.size + 1, 1, none⟩ = _ := (blk_cell HI2.out.z 1).trans rfl
    have f0 := blk_frozen HI2.out.z 0
    have f1 := blk_frozen HI2.out.z 1
    go_wp2
    refine bodyPost_ret (results_ct rfl _ _ (w.heap.size + 1) 24 #[.slice Av l0.length cv, .int .i64 a0_1] (0, 0) _ rfl (by refine blk_put (cs := #[.slice Av l0.length cv, .int .i64 0]) ?_ 1 _ rfl; refine blk_put (cs := #[.slice none 0 0, .int .i64 0]) ?_ 0 _ rfl; exact HI2.out.z) Try.underlying24 rfl (by kernel_rfl)) rfl ?_
    exact ⟨_, rfl, Kd.R_set (Kd.R_set HI2.out.row HI2.out.z (by decide) 0 _) (blk_put HI2.out.z 0 _ rfl) (by decide) 1 _, below_set (below_set HI2.out.bel (Nat.le_succ _)) (Nat.le_succ _)⟩
   ·rw [if_neg ca] at h
    have ea : (a0_1 == 0) = false := beq_eq_false_iff_ne.mpr ca
    by_cases c2 : l0.length < 2
    ·rw [if_pos c2] at h
     simp only [Option.some.injEq, Prod.mk.injEq] at h
     obtain ⟨rfl, rfl, rfl⟩ := h
     have e2 : decide ((l0.length : Int) < 2) = true := decide_eq_true (by omega)
     have e3 : decide (l0.length < 2) = true := decide_eq_true c2
     have o0 : w3.cell? ⟨w2.heap.size, 0, none⟩ = some (.slice Av l0.length cv) := (blk_cell HI2.out.o 0).trans rfl
     have o1 : w3.cell? ⟨w2.heap.size, 1, none⟩ = some (.int .i64 a0_1) := (blk_cell HI2.out.o 1).trans rfl
     have z0 : w3.cell? ⟨w.heap.size + 1, 0, none⟩ = _ := (blk_cell HI2.out.z 0).trans rfl
     have z1 : w3.cell? ⟨w.heap.size + 1, 1, none⟩ = _ := (blk_cell HI2.out.z 1).trans rfl
     have f0 := blk_frozen HI2.out.z 0
     have f1 := blk_frozen HI2.out.z 1
     go_wp2
     refine bodyPost_ret (results_ct rfl _ _ (w.heap.size + 1) 24 #[.slice Av l0.length cv, .int .i64 a0_1] (0, 0) _ rfl (by refine blk_put (cs := #[.slice Av l0.length cv, .int .i64 0]) ?_ 1 _ rfl; refine blk_put (cs := #[.slice none 0 0, .int .i64 0]) ?_ 0 _ rfl; exact HI2.out.z) Try.underlying24 rfl (by kernel_rfl)) rfl ?_
     exact ⟨_, rfl, Kd.R_set (Kd.R_set HI2.out.row HI2.out.z (by decide) 0 _) (blk_put HI2.out.z 0 _ rfl) (by decide) 1 _, below_set (below_set HI2.out.bel (Nat.le_succ _)) (Nat.le_succ _)⟩
    ·rw [if_neg c2] at h
     simp only [Option.some.injEq, Prod.mk.injEq] at h
     obtain ⟨rfl, rfl, rfl⟩ := h
     have e2 : decide ((l0.length : Int) < 2) = false := decide_eq_false (by omega)
     have e3 : decide (l0.length < 2) = false := decide_eq_false c2
     have hw0 : wrap64 ((l0.length : Int) - 1) = (l0.length : Int) - 1 := by have := HL.out; unfold wrap64; omega
     have hra : 0 ≤ a0_1 := by
      have := H1.out
      unfold line_Right.f at this
      by_cases hc : a0_1 ≥ 0
      ·exact hc
      ·rw [if_neg hc] at this; simp at this
     have hs1 : 1 ≤ swI l0.length a0_1 ∧ swI l0.length a0_1 < l0.length := by unfold swI; split <;> omega
     have hsd : (if (l0.length : Int) - 1 < a0_1 then (l0.length : Int) - 1 else a0_1) = swI l0.length a0_1 := rfl
     obtain ⟨sw, hS⟩ : ∃ s, swI l0.length a0_1 = s := ⟨_, rfl⟩
     rw [hS] at hs1 hsd
     have HS := Aside0.mk hS
     clear hS
     obtain ⟨hs1, hs2⟩ := hs1
     have hw1 : wrap64 (sw - 1) = sw - 1 := by have := HL.out; unfold wrap64; omega
     have hw2 : wrap64 (sw + 1) = sw + 1 := by have := HL.out; unfold wrap64; omega
     obtain ⟨g, cap, e, -, -, -⟩ := R_atn HI2.out.row l0.length rfl (by omega)
     injection e with ea1 _ ea2
     subst ea1
     subst ea2
     have hq0 : w3.cell? ⟨w2.heap.size, 0, none⟩ = some (.slice (some ⟨g, 0, none⟩) l0.length cv) := (blk_cell HI2.out.o 0).trans rfl
     have p1 := eq_true (show 0 ≤ sw by omega)
     have p2 := eq_true (show sw < (l0.length : Int) by omega)
     have p3 := eq_true (show 0 ≤ sw - 1 by omega)
     have p4 := eq_true (show sw - 1 < (l0.length : Int) by omega)
     clear e2 e3 c2 ca hra HH
     go_wp2
     refine start_ (n := 22) (S := fun w' => w'.cell? ⟨w2.heap.size, 0, none⟩ = some (.slice (some ⟨g, 0, none⟩) l0.length cv)) (ds := []) (ba 22 0) (by kernel_rfl) rfl rfl hq0 (fun hHeld => ?_); refine with_tabW line_Swap.tab6 line_Swap.bits6 (fun HT_ HW_ => ?_)
     have HI4 := Aside0.mk (HI2.out.below (below_drew1 (Below.refl _ _)))
     clear HI2 hq0 b0 b1
     generalize w3.drew = w4 at HI4 hHeld ⊢
     obtain ⟨x0, x1⟩ := sign_at HI4.out.row sw (by omega) (by omega)
     obtain ⟨y0, y1⟩ := sign_at HI4.out.row (sw - 1) (by omega) (by omega)
     have HI2 := HI4
     clear HI4
     have e1 : (sw - 1).toNat = sw.toNat - 1 := by omega
     rw [e1] at y0 y1
     refine pS 0 30 (v := ?_) (a' := ?_) (ba 22 1) HT_ (by kernel_rfl) rfl rfl (fun _ _ _ h => h) (by rfl) ?_ ?_ ?_; rotate_left 2; (intro w'; go_simp; with_reducible rfl); (simp only [Act.put, List.setIfInBounds_toArray, List.set_cons_zero, List.set_cons_succ, i64_w, i32_w]; rfl)
     refine pS 2 32 (v := ?_) (a' := ?_) (ba 22 5) HT_ (by kernel_rfl) rfl rfl (fun _ _ _ h => h) (by rfl) ?_ ?_ ?_; rotate_left 2; (intro w'; go_simp; with_reducible rfl); (simp only [Act.put, List.setIfInBounds_toArray, List.set_cons_zero, List.set_cons_succ, i64_w, i32_w]; rfl)
     refine pS 3 33 (v := ?_) (a' := ?_) (ba 22 13) HT_ (by kernel_rfl) rfl rfl (fun _ _ _ h => h) (by rfl) ?_ ?_ ?_; rotate_left 2; (intro w'; go_simp; with_reducible rfl); (simp only [Act.put, List.setIfInBounds_toArray, List.set_cons_zero, List.set_cons_succ, i64_w, i32_w]; rfl)
     refine pS 4 34 (v := ?_) (a' := ?_) (ba 22 29) HT_ (by kernel_rfl) rfl rfl (fun _ _ _ h => h) (by rfl) ?_ ?_ ?_; rotate_left 2; (intro w'; go_simp; with_reducible rfl); (simp only [Act.put, List.setIfInBounds_toArray, List.set_cons_zero, List.set_cons_succ, i64_w, i32_w]; rfl)
     refine pS 6 36 (v := ?_) (a' := ?_) (ba 22 93) HT_ (by kernel_rfl) rfl rfl (fun _ _ _ h => h) (by rfl) ?_ ?_ ?_; rotate_left 2; (intro w'; go_simp; with_reducible rfl); (simp only [Act.put, List.setIfInBounds_toArray, List.set_cons_zero, List.set_cons_succ, i64_w, i32_w]; rfl)
     refine pS 7 37 (v := ?_) (a' := ?_) (ba 22 221) HT_ (by kernel_rfl) rfl rfl (fun _ _ _ h => h) (by rfl) ?_ ?_ ?_; rotate_left 2; (intro w'; go_simp; with_reducible rfl); (simp only [Act.put, List.setIfInBounds_toArray, List.set_cons_zero, List.set_cons_succ, i64_w, i32_w]; rfl)
     refine pS 9 39 (v := ?_) (a' := ?_) (ba 22 733) HT_ (by kernel_rfl) rfl rfl (fun _ _ _ h => h) (by rfl) ?_ ?_ ?_; rotate_left 2; (intro w'; go_simp; with_reducible rfl); (simp only [Act.put, List.setIfInBounds_toArray, List.set_cons_zero, List.set_cons_succ, i64_w, i32_w]; rfl)
     refine pS 12 42 (v := ?_) (a' := ?_) (ba 22 4829) HT_ (by kernel_rfl) rfl rfl (fun _ _ _ h => h) (by rfl) ?_ ?_ ?_; rotate_left 2; (intro w'; go_simp; with_reducible rfl); (simp only [Act.put, List.setIfInBounds_toArray, List.set_cons_zero, List.set_cons_succ, i64_w, i32_w]; rfl)
     refine pS 14 44 (v := ?_) (a' := ?_) (ba 22 21213) HT_ (by kernel_rfl) rfl rfl (fun _ _ _ h => h) (by rfl) ?_ ?_ ?_; rotate_left 2; (intro w'; go_simp; with_reducible rfl); (simp only [Act.put, List.setIfInBounds_toArray, List.set_cons_zero, List.set_cons_succ, i64_w, i32_w]; rfl)
     refine pS 15 45 (v := ?_) (a' := ?_) (ba 22 53981) HT_ (by kernel_rfl) rfl rfl (fun _ _ _ h => h) (by rfl) ?_ ?_ ?_; rotate_left 2; (intro w'; go_simp; with_reducible rfl); (simp only [Act.put, List.setIfInBounds_toArray, List.set_cons_zero, List.set_cons_succ, i64_w, i32_w]; rfl)
     refine take_ (i := 1) (N := some 31) (v := ?_) (a' := ?_) (ba 22 53983) rfl rfl (take_ofW HT_.out HW_.out (by kernel_rfl)) (fun _ _ _ h => h) (Or.inl ⟨by rfl, ?_⟩) hHeld ?_ ?_; rotate_left; (rintro w' hs; go_simp; with_reducible rfl); rotate_left; (simp only [Act.put, List.setIfInBounds_toArray, List.set_cons_zero, List.set_cons_succ, i64_w, i32_w]; rfl)
     refine take_ (i := 5) (N := some 35) (v := ?_) (a' := ?_) (ba 22 54015) rfl rfl (take_ofW HT_.out HW_.out (by kernel_rfl)) (fun _ _ _ h => h) (Or.inl ⟨by rfl, ?_⟩) hHeld ?_ ?_; rotate_left; (rintro w' hs; go_simp; with_reducible rfl); rotate_left; (simp only [Act.put, List.setIfInBounds_toArray, List.set_cons_zero, List.set_cons_succ, i64_w, i32_w]; rfl)
     refine take_ (i := 8) (N := some 38) (v := ?_) (a' := ?_) (ba 22 54271) rfl rfl (take_ofW HT_.out HW_.out (by kernel_rfl)) (fun _ _ _ h => h) (Or.inl ⟨by rfl, ?_⟩) hHeld ?_ ?_; rotate_left; (rintro w' hs; go_simp; with_reducible rfl); rotate_left; (simp only [Act.put, List.setIfInBounds_toArray, List.set_cons_zero, List.set_cons_succ, i64_w, i32_w]; rfl)
     refine take_ (i := 13) (N := some 43) (v := ?_) (a' := ?_) (ba 22 62463) rfl rfl (take_ofW HT_.out HW_.out (by kernel_rfl)) (fun _ _ _ h => h) (Or.inl ⟨by rfl, ?_⟩) hHeld ?_ ?_; rotate_left; (rintro w' hs; go_simp; with_reducible rfl); rotate_left; (simp only [Act.put, List.setIfInBounds_toArray, List.set_cons_zero, List.set_cons_succ, i64_w, i32_w]; rfl)
     refine pS 10 40 (v := ?_) (a' := ?_) (ba 22 63487) HT_ (by kernel_rfl) rfl rfl (fun _ _ _ h => h) (by rfl) ?_ ?_ ?_; rotate_left 2; (intro w'; go_simp; with_reducible rfl); (simp only [Act.put, List.setIfInBounds_toArray, List.set_cons_zero, List.set_cons_succ, i64_w, i32_w]; rfl)
     refine pS 16 46 (v := ?_) (a' := ?_) (ba 22 129023) HT_ (by kernel_rfl) rfl rfl (fun _ _ _ h => h) (by rfl) ?_ ?_ ?_; rotate_left 2; (intro w'; go_simp; with_reducible rfl); (simp only [Act.put, List.setIfInBounds_toArray, List.set_cons_zero, List.set_cons_succ, i64_w, i32_w]; rfl)
     refine two_ (i := 11) (j := 17) (Ni := some 41) (Nj := some 47) (ba 22 131071) (ba 22 260095) rfl rfl rfl rfl (two_of HT_.out (by kernel_rfl)) (by decide) (by decide) (fun K hK => ?_) (fun K hK => ?_)
     ·refine event_step (w1 := w4) (v := (.agg #[.int .i64 (rd_T47 l0 sw).f0, .int .i64 (rd_T47 l0 sw).f1])) (by rfl) (by go_simp) ?_
      refine hK.out _ _ hHeld (fun hHeld => ?_)
      clear hK K
      refine norm_ (a' := ?_) ?_ ?_; rotate_left; (show Act.put _ (some 41) _ = _; simp only [Act.put, List.setIfInBounds_toArray, List.set_cons_zero, List.set_cons_succ, i64_w, i32_w]; rfl)
      refine one_ (i := 17) (N := some 47) (ba 22 262143) rfl rfl (one_of HT_.out (by kernel_rfl)) (by decide) (fun K hK => ?_)
      refine event_step (w1 := w4) (v := (.agg #[.int .i64 (rd_T47 l0 (sw - 1)).f0, .int .i64 (rd_T47 l0 (sw - 1)).f1])) (by rfl) (by go_simp) ?_
      refine hK.out _ _ hHeld (fun hHeld => ?_)
      clear hK K
      refine norm_ (a' := ?_) ?_ ?_; rotate_left; (show Act.put _ (some 47) _ = _; simp only [Act.put, List.setIfInBounds_toArray, List.set_cons_zero, List.set_cons_succ, i64_w, i32_w]; rfl)
      refine pS 18 48 (v := ?_) (a' := ?_) (ba 22 524287) HT_ (by kernel_rfl) rfl rfl (fun _ _ _ h => h) (by rfl) ?_ ?_ ?_; rotate_left 2; (intro w'; go_simp; with_reducible rfl); (simp only [Act.put, List.setIfInBounds_toArray, List.set_cons_zero, List.set_cons_succ, i64_w, i32_w]; rfl)
      refine one_ (i := 19) (N := none) (ba 22 1048575) rfl rfl (one_of HT_.out (by kernel_rfl)) (by decide) (fun K hK => ?_)
      obtain ⟨hrun, hro, hgr⟩ := sign_storeS HI2.out.row (sw - 1) (by omega) (by omega) (rd_T47 l0 sw) (by kernel_rfl)
      rw [e1] at hrun hro hgr
      refine skip_store 47 (.tmp 48) (.tmp 41) _ _ (by rfl) rfl rfl rfl rfl hrun ?_
      have HI3 := Aside0.mk (HI2.out.stored hro hgr)
      refine hK.out _ _ ((blk_cell HI3.out.o 0).trans rfl) (fun hHeld => ?_)
      clear hK K
      refine pS 20 49 (v := ?_) (a' := ?_) (ba 22 2097151) HT_ (by kernel_rfl) rfl rfl (fun _ _ _ h => h) (by rfl) ?_ ?_ ?_; rotate_left 2; (intro w'; go_simp; with_reducible rfl); (simp only [Act.put, List.setIfInBounds_toArray, List.set_cons_zero, List.set_cons_succ, i64_w, i32_w]; rfl)
      refine one_ (i := 21) (N := none) (ba 22 4194303) rfl rfl (one_of HT_.out (by kernel_rfl)) (by decide) (fun K hK => ?_)
      obtain ⟨hrun, hro, hgr⟩ := sign_storeS HI3.out.row sw (by omega) (by omega) (rd_T47 l0 (sw - 1)) (by kernel_rfl)
      refine skip_store 47 (.tmp 49) (.tmp 47) _ _ (by rfl) rfl rfl rfl rfl hrun ?_
      have HI4 := Aside0.mk (HI3.out.stored hro hgr)
      refine hK.out _ _ ((blk_cell HI4.out.o 0).trans rfl) (fun hHeld => ?_)
      clear hK K
      refine done_ (done_of HT_.out (by kernel_rfl)) ?_
      generalize (((w4.setCells _ _ _)).setCells _ _ _) = w6 at HI4
      have o0 : w6.cell? ⟨w2.heap.size, 0, none⟩ = some (.slice (some ⟨g, 0, none⟩) l0.length cv) := (blk_cell HI4.out.o 0).trans rfl
      have o1 : w6.cell? ⟨w2.heap.size, 1, none⟩ = some (.int .i64 a0_1) := (blk_cell HI4.out.o 1).trans rfl
      have of1 := blk_frozen HI4.out.o 1
      have z0 : w6.cell? ⟨w.heap.size + 1, 0, none⟩ = _ := (blk_cell HI4.out.z 0).trans rfl
      have z1 : w6.cell? ⟨w.heap.size + 1, 1, none⟩ = _ := (blk_cell HI4.out.z 1).trans rfl
      have f0 := blk_frozen HI4.out.z 0
      have f1 := blk_frozen HI4.out.z 1
      have ne1 : w2.heap.size ≠ w.heap.size + 1 := by have := HI4.out.lt; omega
      have ne2 : w.heap.size + 1 ≠ w2.heap.size := by have := HI4.out.lt; omega
      go_wp2
      have HZ := Aside0.mk (blk_far HI4.out.z (p := ⟨w2.heap.size, 1, none⟩) ne2 (.int .i64 (sw + 1)))
      refine bodyPost_ret (results_ct rfl _ _ (w.heap.size + 1) 24 #[.slice (some ⟨g, 0, none⟩) l0.length cv, .int .i64 (sw + 1)] (0, 0) _ rfl (by refine blk_put (cs := #[.slice (some ⟨g, 0, none⟩) l0.length cv, .int .i64 0]) ?_ 1 _ rfl; refine blk_put (cs := #[.slice none 0 0, .int .i64 0]) ?_ 0 _ rfl; exact HZ.out) Try.underlying24 rfl (by kernel_rfl)) rfl ?_
      rw [HS.out]
      refine ⟨_, rfl, ?_, below_set (below_set (below_set HI4.out.bel (by have := HI4.out.lt; omega)) (Nat.le_succ _)) (Nat.le_succ _)⟩
      unfold swapL
      rw [e1]
      exact Kd.R_set (Kd.R_set (Kd.R_set HI4.out.row HI4.out.o (by decide) 1 _) HZ.out (by decide) 0 _) (blk_put HZ.out 0 _ rfl) (by decide) 1 _
     ·refine event_step (w1 := w4) (v := (.agg #[.int .i64 (rd_T47 l0 (sw - 1)).f0, .int .i64 (rd_T47 l0 (sw - 1)).f1])) (by rfl) (by go_simp) ?_
      refine hK.out _ _ hHeld (fun hHeld => ?_)
      clear hK K
      refine norm_ (a' := ?_) ?_ ?_; rotate_left; (show Act.put _ (some 47) _ = _; simp only [Act.put, List.setIfInBounds_toArray, List.set_cons_zero, List.set_cons_succ, i64_w, i32_w]; rfl)
      refine one_ (i := 11) (N := some 41) (ba 22 262143) rfl rfl (one_of HT_.out (by kernel_rfl)) (by decide) (fun K hK => ?_)
      refine event_step (w1 := w4) (v := (.agg #[.int .i64 (rd_T47 l0 sw).f0, .int .i64 (rd_T47 l0 sw).f1])) (by rfl) (by go_simp) ?_
      refine hK.out _ _ hHeld (fun hHeld => ?_)
      clear hK K
      refine norm_ (a' := ?_) ?_ ?_; rotate_left; (show Act.put _ (some 41) _ = _; simp only [Act.put, List.setIfInBounds_toArray, List.set_cons_zero, List.set_cons_succ, i64_w, i32_w]; rfl)
      refine pS 18 48 (v := ?_) (a' := ?_) (ba 22 524287) HT_ (by kernel_rfl) rfl rfl (fun _ _ _ h => h) (by rfl) ?_ ?_ ?_; rotate_left 2; (intro w'; go_simp; with_reducible rfl); (simp only [Act.put, List.setIfInBounds_toArray, List.set_cons_zero, List.set_cons_succ, i64_w, i32_w]; rfl)
      refine one_ (i := 19) (N := none) (ba 22 1048575) rfl rfl (one_of HT_.out (by kernel_rfl)) (by decide) (fun K hK => ?_)
      obtain ⟨hrun, hro, hgr⟩ := sign_storeS HI2.out.row (sw - 1) (by omega) (by omega) (rd_T47 l0 sw) (by kernel_rfl)
      rw [e1] at hrun hro hgr
      refine skip_store 47 (.tmp 48) (.tmp 41) _ _ (by rfl) rfl rfl rfl rfl hrun ?_
      have HI3 := Aside0.mk (HI2.out.stored hro hgr)
      refine hK.out _ _ ((blk_cell HI3.out.o 0).trans rfl) (fun hHeld => ?_)
      clear hK K
      refine pS 20 49 (v := ?_) (a' := ?_) (ba 22 2097151) HT_ (by kernel_rfl) rfl rfl (fun _ _ _ h => h) (by rfl) ?_ ?_ ?_; rotate_left 2; (intro w'; go_simp; with_reducible rfl); (simp only [Act.put, List.setIfInBounds_toArray, List.set_cons_zero, List.set_cons_succ, i64_w, i32_w]; rfl)
      refine one_ (i := 21) (N := none) (ba 22 4194303) rfl rfl (one_of HT_.out (by kernel_rfl)) (by decide) (fun K hK => ?_)
      obtain ⟨hrun, hro, hgr⟩ := sign_storeS HI3.out.row sw (by omega) (by omega) (rd_T47 l0 (sw - 1)) (by kernel_rfl)
      refine skip_store 47 (.tmp 49) (.tmp 47) _ _ (by rfl) rfl rfl rfl rfl hrun ?_
      have HI4 := Aside0.mk (HI3.out.stored hro hgr)
      refine hK.out _ _ ((blk_cell HI4.out.o 0).trans rfl) (fun hHeld => ?_)
      clear hK K
      refine done_ (done_of HT_.out (by kernel_rfl)) ?_
      generalize (((w4.setCells _ _ _)).setCells _ _ _) = w6 at HI4
      have o0 : w6.cell? ⟨w2.heap.size, 0, none⟩ = some (.slice (some ⟨g, 0, none⟩) l0.length cv) := (blk_cell HI4.out.o 0).trans rfl
      have o1 : w6.cell? ⟨w2.heap.size, 1, none⟩ = some (.int .i64 a0_1) := (blk_cell HI4.out.o 1).trans rfl
      have of1 := blk_frozen HI4.out.o 1
      have z0 : w6.cell? ⟨w.heap.size + 1, 0, none⟩ = _ := (blk_cell HI4.out.z 0).trans rfl
      have z1 : w6.cell? ⟨w.heap.size + 1, 1, none⟩ = _ := (blk_cell HI4.out.z 1).trans rfl
      have f0 := blk_frozen HI4.out.z 0
      have f1 := blk_frozen HI4.out.z 1
      have ne1 : w2.heap.size ≠ w.heap.size + 1 := by have := HI4.out.lt; omega
      have ne2 : w.heap.size + 1 ≠ w2.heap.size := by have := HI4.out.lt; omega
      go_wp2
      have HZ := Aside0.mk (blk_far HI4.out.z (p := ⟨w2.heap.size, 1, none⟩) ne2 (.int .i64 (sw + 1)))
      refine bodyPost_ret (results_ct rfl _ _ (w.heap.size + 1) 24 #[.slice (some ⟨g, 0, none⟩) l0.length cv, .int .i64 (sw + 1)] (0, 0) _ rfl (by refine blk_put (cs := #[.slice (some ⟨g, 0, none⟩) l0.length cv, .int .i64 0]) ?_ 1 _ rfl; refine blk_put (cs := #[.slice none 0 0, .int .i64 0]) ?_ 0 _ rfl; exact HZ.out) Try.underlying24 rfl (by kernel_rfl)) rfl ?_
      rw [HS.out]
      refine ⟨_, rfl, ?_, below_set (below_set (below_set HI4.out.bel (by have := HI4.out.lt; omega)) (Nat.le_succ _)) (Nat.le_succ _)⟩
      unfold swapL
      rw [e1]
      exact Kd.R_set (Kd.R_set (Kd.R_set HI4.out.row HI4.out.o (by decide) 1 _) HZ.out (by decide) 0 _) (blk_put HZ.out 0 _ rfl) (by decide) 1 _
 ·rw [if_neg hl] at h
  cases h

end Go.Proofs.Ytemoocoedibbpab.X

namespace Go.Proofs.Ytemoocoedibbpab.X
open Go.RowKit Go.Proofs.YtemoocoedibbpabW.PrintWords Go.Proofs.YtemoocoedibbpabW.PrintLast Go.Proofs.YtemoocoedibbpabW.PrintMore
attribute [local go_sem] max2_int min2_int max_two min_two max_three min_three max_four min_four
set_option linter.unusedVariables false
set_option linter.unusedSimpArgs false

/-! #### struct type 160 -/
structure S160 where
  f0 : Int
  f1 : Int
  f2 : Int
def z160 : S160 := ⟨(0 : Int), (0 : Int), (0 : Int)⟩
def k160 : Kd S160 := Kd.iso (Kd.pair (Kd.int .i64) (Kd.pair (Kd.int .i64) (Kd.int .i64))) (fun x : S160 => (x.f0, x.f1, x.f2))
theorem k160_heap : Kd.Heap k160 := Kd.heap_iso _ (Kd.heap_pair (Kd.heap_int .i64) (Kd.heap_pair (Kd.heap_int .i64) (Kd.heap_int .i64)))
theorem k160_open {w : World} {x : S160} {cs : List Value} (h : k160.K w x cs) : cs = [.int .i64 x.f0, .int .i64 x.f1, .int .i64 x.f2] := by
  obtain ⟨_, _, rfl, rfl, ⟨_, _, rfl, rfl, rfl⟩⟩ := h
  exact rfl
theorem k160_openM {w : World} {base : Nat} {ok : Nat → Prop} {x : S160} {cs : List Value} (h : k160.M w base ok x cs) : cs = [.int .i64 x.f0, .int .i64 x.f1, .int .i64 x.f2] := by
  obtain ⟨_, _, rfl, rfl, ⟨_, _, rfl, rfl, rfl⟩⟩ := h
  exact rfl
theorem k160_mk (w : World) (x : S160)  : k160.K w x [.int .i64 x.f0, .int .i64 x.f1, .int .i64 x.f2] := ⟨[.int .i64 x.f0], [.int .i64 x.f1, .int .i64 x.f2], rfl, rfl, ⟨[.int .i64 x.f1], [.int .i64 x.f2], rfl, rfl, rfl⟩⟩
theorem k160_mkM (w : World) (base : Nat) (ok : Nat → Prop) (x : S160)  : k160.M w base ok x [.int .i64 x.f0, .int .i64 x.f1, .int .i64 x.f2] := ⟨[.int .i64 x.f0], [.int .i64 x.f1, .int .i64 x.f2], rfl, rfl, ⟨[.int .i64 x.f1], [.int .i64 x.f2], rfl, rfl, rfl⟩⟩
theorem k160_mkF (W : World) (ok : Nat → Prop) (x : S160) : Kd.FK k160 W ok x [.int .i64 x.f0, .int .i64 x.f1, .int .i64 x.f2] := fun W2 _ => k160_mk W2 x
def rd_T160 (xs : List S160) (i : Int) : S160 := xs.getD i.toNat z160
theorem at_T160 {w : World} {A : Option Addr} {n : Nat} {xs : List S160} (h : Kd.C k160 w A n xs) (i : Int) (h0 : 0 ≤ i) (h1 : i < n) : ∃ ad , A = some ad ∧ w.cell? (ad.add (i.toNat * 3)) = some (.int .i64 (rd_T160 xs i).f0) ∧ w.cell? ⟨(ad.add (i.toNat * 3)).block, (ad.add (i.toNat * 3)).off + 1, none⟩ = some (.int .i64 (rd_T160 xs i).f1) ∧ w.cell? ⟨(ad.add (i.toNat * 3)).block, (ad.add (i.toNat * 3)).off + 2, none⟩ = some (.int .i64 (rd_T160 xs i).f2) := by
  obtain ⟨ad, c, e, _, hK, hc0⟩ := Kd.C_get h z160 i h0 h1
  have hc : ∀ j u, c[j]? = some u → w.cell? (ad.add (i.toNat * 3 + j)) = some u := hc0
  obtain rfl := k160_open hK
  exact ⟨ad, e, hc 0 _ rfl, by rw [← add_field _ _ 1 (by omega)]; exact hc 1 _ rfl, by rw [← add_field _ _ 2 (by omega)]; exact hc 2 _ rfl⟩

def rd_L35 (xs : List (List S160)) (i : Int) : (List S160) := xs.getD i.toNat ([] : List S160)
theorem at_L35 {w : World} {A : Option Addr} {n : Nat} {xs : List (List S160)} (h : Kd.C (Kd.slice 160 k160) w A n xs) (i : Int) (h0 : 0 ≤ i) (h1 : i < n) : ∃ ad A0 c0, A = some ad ∧ w.cell? (ad.add i.toNat) = some (.slice A0 (rd_L35 xs i).length c0) ∧ (rd_L35 xs i).length ≤ c0 ∧ k160.C w A0 (rd_L35 xs i).length (rd_L35 xs i) := by
  obtain ⟨ad, c, e, _, hK, hc0⟩ := Kd.C_get h ([] : List S160) i h0 h1
  have hc : ∀ j u, c[j]? = some u → w.cell? (ad.add (i.toNat * 1 + j)) = some u := hc0
  obtain ⟨A0, c0, rfl, l0, g0⟩ := hK
  exact ⟨ad, A0, c0, e, by have hq := hc 0 _ rfl; rwa [Nat.mul_one, Nat.add_zero] at hq, l0, g0⟩


end Go.Proofs.Ytemoocoedibbpab.X

namespace Go.Proofs.Ytemoocoedibbpab.X
open Go.RowKit Go.Proofs.YtemoocoedibbpabW.PrintWords Go.Proofs.YtemoocoedibbpabW.PrintLast Go.Proofs.YtemoocoedibbpabW.PrintMore
attribute [local go_sem] max2_int min2_int max_two min_two max_three min_three max_four min_four
set_option linter.unusedVariables false
set_option linter.unusedSimpArgs false

/-! ### IndexFunc_span: function 165 -/
def enc_span (x : S160) : Value := .agg #[.int .i64 x.f0, .int .i64 x.f1, .int .i64 x.f2]
set_option maxHeartbeats 4000000 in
theorem IndexFunc_span.calls (p : S160 → Bool) (g : Nat) (lb : Array Value) (eg : ∀ args w, (callFunc g args).run Try.prog w = .ok (.enter g args) w) (A0 : Option Addr) (c0 : Nat) (l0 : List S160) (w : World) (hr0 : Kd.C k160 w A0 l0.length l0) (hn : l0.length ≤ 9223372036854775807)
    (hp : PredFor g lb enc_span p w) :
    Calls Try.prog 165 #[.slice A0 l0.length c0, .func (.func g) #[] lb] w fun e w' => e = .returned (.int .i64 (idxP p l0)) ∧ Below w.heap.size w w' := by
  have HR := Aside0.mk hr0
  have HP := Aside0.mk hp
  clear hr0 hp
  have hu := Try.underlying160
  go_enter Try.func165, Try.ntmps165
  go_wp2
  go_loopg [5, 8] l0.length (fun gg _ s8 wr => ∃ kk : Nat, kk ≤ l0.length ∧ l0.length - kk ≤ gg ∧ s8 = .int .i64 kk ∧ Aside0 (Below w.heap.size w wr) ∧ Aside0 (∀ j, (hj : j < l0.length) → j < kk → p l0[j] = false))
  case atStart => exact ⟨0, Nat.zero_le _, by omega, rfl, ⟨Below.refl _ w⟩, ⟨fun j _ hj => absurd hj (Nat.not_lt_zero _)⟩⟩
  case round =>
    obtain ⟨kk, hkk, hg, rfl, BW, A⟩ := hrel
    by_cases hlt : kk < l0.length
    · have hlt1 : decide ((kk : Int) < (l0.length : Int)) = true := decide_eq_true (by omega)
      have hlt2 : decide (kk < l0.length) = true := decide_eq_true hlt
      obtain ⟨ad, e, h0, h1, h2⟩ := at_T160 (Kd.C_below HR.out BW.out) (kk : Int) (by omega) (by omega)
      cases e
      have ex : rd_T160 l0 (kk : Int) = l0[kk] := by simp [rd_T160, List.getD, hlt]
      rw [ex] at h0 h1 h2
      simp only [Int.toNat_natCast] at h0 h1 h2
      have hcall := HP.out wr l0[kk] BW.out
      generalize hy : l0[kk] = y at h0 h1 h2 hcall
      have B := Aside0.mk hy
      clear hy ex
      cases hq : p y with
      | true =>
        rw [hq] at hcall
        have HQ := Aside0.mk hq
        clear hq
        unfold enc_span at hcall
        go_wp2_with ((with_reducible refine hcall.mono ?_); rintro e w' ⟨rfl, hb'⟩)
        go_ret
        refine ⟨?_, hb'⟩
        rw [idxP_hit p l0 kk hlt (by rw [B.out]; exact HQ.out) (fun j hj => A.out j (by omega) hj)]
        rfl
      | false =>
        rw [hq] at hcall
        have HQ := Aside0.mk hq
        clear hq
        unfold enc_span at hcall
        go_wp2_with ((with_reducible refine hcall.mono ?_); rintro e w' ⟨rfl, hb'⟩)
        go_roundg (l0.length - (kk + 1))
        case measure => omega
        case rel =>
          refine ⟨kk + 1, by omega, by omega, by go_num, ⟨hb'⟩, ⟨fun j hj1 hj => ?_⟩⟩
          by_cases e : j = kk
          · subst e
            rw [B.out]; exact HQ.out
          · exact A.out j hj1 (by omega)
    · have hlt1 : decide ((kk : Int) < (l0.length : Int)) = false := decide_eq_false (by omega)
      have hlt2 : decide (kk < l0.length) = false := decide_eq_false hlt
      go_wp2
      go_ret
      refine ⟨?_, BW.out⟩
      rw [idxP_miss p l0 (fun j hj => A.out j hj (by omega))]
      rfl

end Go.Proofs.Ytemoocoedibbpab.X

namespace Go.Proofs.Ytemoocoedibbpab.X
open Go.RowKit Go.Proofs.YtemoocoedibbpabW.PrintWords Go.Proofs.YtemoocoedibbpabW.PrintLast Go.Proofs.YtemoocoedibbpabW.PrintMore
attribute [local go_sem] max2_int min2_int max_two min_two max_three min_three max_four min_four
set_option linter.unusedVariables false
set_option linter.unusedSimpArgs false

/-! ### class_in: function 148 -/
def inP (v : Int) (s : S160) : Bool := decide (v ≥ s.f0) && decide (v ≤ s.f1)
def class_in.f (a0 : Int) (l1 : List S160) : Option Int := some (if idxP (inP a0) l1 < 0 then 0 else (rd_T160 l1 (idxP (inP a0) l1)).f2)
set_option maxHeartbeats 4000000 in
theorem class_in_1.calls (B : Nat) (v : Int) (x : S160) (W : World) (hB : B < W.heap.size) (hc : W.cell? ⟨B, 0, none⟩ = some (.int .i64 v)) :
    Calls Try.prog 166 #[enc_span x, .pointer (some ⟨B, 0, none⟩)] W fun e w' => e = .returned (.bool (inP v x)) ∧ Below W.heap.size W w' := by
  unfold enc_span inP
  obtain ⟨a, b, c⟩ := x
  dsimp only
  by_cases h1 : v ≥ a
  · have e1 : decide (a ≤ v) = true := decide_eq_true h1
    by_cases h2 : v ≤ b
    · have e2 : decide (v ≤ b) = true := decide_eq_true h2
      clear h1 h2
      go_enter Try.func166, Try.ntmps166
      go_wp2
      go_ret
      exact ⟨by simp [e1, e2], (Below.refl _ _).alloc (Nat.le_refl _) _⟩
    · have e2 : decide (v ≤ b) = false := decide_eq_false h2
      clear h1 h2
      go_enter Try.func166, Try.ntmps166
      go_wp2
      go_ret
      exact ⟨by simp [e1, e2], (Below.refl _ _).alloc (Nat.le_refl _) _⟩
  · have e1 : decide (a ≤ v) = false := decide_eq_false h1
    clear h1
    go_enter Try.func166, Try.ntmps166
    go_wp2
    go_ret
    exact ⟨by simp [e1], (Below.refl _ _).alloc (Nat.le_refl _) _⟩
set_option maxHeartbeats 4000000 in
theorem class_in.calls (a0 : Int) (A1 : Option Addr) (c1 : Nat) (l1 : List S160) (r : Int) (w : World) (hr1 : Kd.C k160 w A1 l1.length l1) (hc1 : l1.length ≤ c1) (h : class_in.f a0 l1 = some r) :
    Calls Try.prog 148 #[.int .i64 a0, .slice A1 l1.length c1] w fun e w' => e = .returned (.int .i64 r) ∧ Below w.heap.size w w' := by
  have hu := Try.underlying160
  have HR := Aside0.mk hr1
  have hlen := hr1.2.1
  clear hr1
  obtain ⟨hi0, hi1⟩ := idxP_ge (inP a0) l1
  have hE : r = (if idxP (inP a0) l1 < 0 then 0 else (rd_T160 l1 (idxP (inP a0) l1)).f2) := (Option.some.inj h).symm
  clear h
  have HE := Aside0.mk hE
  clear hE
  have hP : PredFor 166 #[.pointer (some ⟨w.heap.size, 0, none⟩)] enc_span (inP a0) (w.alloc (.cells #[.int .i64 a0] 3)) := fun W x hb =>
    (class_in_1.calls w.heap.size a0 x W (by have := hb.size; simp at this; omega) ((hb.cell (p := ⟨w.heap.size, 0, none⟩) (by simp)).trans (by simp))).mono fun e w' ⟨he, hb'⟩ => ⟨he, below_step hb hb'⟩
  have HC := Aside0.mk (IndexFunc_span.calls (inP a0) _ _ (enters_fn Try.func166 (by kernel_rfl) rfl) A1 c1 l1 _ (Kd.C_alloc HR.out _) hlen hP)
  clear hP hlen
  generalize idxP (inP a0) l1 = i at hi0 hi1 HE HC
  by_cases hi : i < 0
  · have e1 : decide (i < 0) = true := decide_eq_true hi
    have HE' := HE.out
    rw [if_pos hi] at HE'
    subst HE'
    clear HE hi
    go_enter Try.func148, Try.ntmps148
    go_wp2_with ((with_reducible refine HC.out.mono ?_); rintro e w1 ⟨rfl, hb⟩)
    go_ret
    exact ⟨rfl, below_step (below_alloc (Below.refl _ _) _) hb⟩
  · have e1 : decide (i < 0) = false := decide_eq_false hi
    have HE' := HE.out
    rw [if_neg hi] at HE'
    have HF := Aside0.mk HE'
    clear HE HE'
    go_enter Try.func148, Try.ntmps148
    go_upto_region 2 with ((with_reducible refine HC.out.mono ?_); rintro e w1 ⟨rfl, hb⟩)
    obtain ⟨ad, e, h0, h1, h2⟩ := at_T160 (Kd.C_below (Kd.C_alloc HR.out _) hb) i (by omega) (by omega)
    cases e
    go_wp2
    go_ret
    exact ⟨by rw [HF.out]; rfl, below_step (below_alloc (Below.refl _ _) _) hb⟩

end Go.Proofs.Ytemoocoedibbpab.X

namespace Go.Proofs.Ytemoocoedibbpab.X
open Go.RowKit Go.Proofs.YtemoocoedibbpabW.PrintWords Go.Proofs.YtemoocoedibbpabW.PrintLast Go.Proofs.YtemoocoedibbpabW.PrintMore
attribute [local go_sem] max2_int min2_int max_two min_two max_three min_three max_four min_four
set_option linter.unusedVariables false
set_option linter.unusedSimpArgs false

/-! ### class_spans: function 149 -/
def class_spans.f  : Option ((List (S160))) := some (([(⟨0, 31, 4⟩ : S160), (⟨127, 127, 5⟩ : S160), (⟨128, 159, 6⟩ : S160), (⟨160, 160, 10⟩ : S160), (⟨5760, 5760, 10⟩ : S160), (⟨8192, 8202, 10⟩ : S160), (⟨8232, 8233, 10⟩ : S160), (⟨8239, 8239, 10⟩ : S160), (⟨8287, 8287, 10⟩ : S160), (⟨12288, 12288, 10⟩ : S160), (⟨173, 173, 8⟩ : S160), (⟨6155, 6158, 8⟩ : S160), (⟨8203, 8205, 8⟩ : S160), (⟨8288, 8292, 8⟩ : S160), (⟨65279, 65279, 8⟩ : S160), (⟨65529, 65531, 8⟩ : S160), (⟨1564, 1564, 7⟩ : S160), (⟨8206, 8207, 7⟩ : S160), (⟨8234, 8238, 7⟩ : S160), (⟨8294, 8297, 7⟩ : S160), (⟨768, 879, 9⟩ : S160), (⟨1155, 1161, 9⟩ : S160), (⟨1425, 1469, 9⟩ : S160), (⟨1552, 1562, 9⟩ : S160), (⟨1611, 1631, 9⟩ : S160), (⟨1750, 1756, 9⟩ : S160), (⟨6832, 6862, 9⟩ : S160), (⟨7616, 7679, 9⟩ : S160), (⟨8400, 8432, 9⟩ : S160), (⟨12330, 12335, 9⟩ : S160), (⟨12441, 12442, 9⟩ : S160), (⟨65024, 65039, 9⟩ : S160), (⟨65056, 65071, 9⟩ : S160), (⟨57344, 63743, 11⟩ : S160), (⟨64976, 65007, 11⟩ : S160), (⟨65520, 65528, 11⟩ : S160), (⟨65534, 65535, 11⟩ : S160), (⟨131070, 131071, 11⟩ : S160), (⟨262142, 1114111, 11⟩ : S160)] : List (S160)))
set_option maxHeartbeats 8000000 in
set_option maxRecDepth 100000 in
theorem class_spans.calls  (r : List (S160)) (w : World) (h : class_spans.f  = some r) :
  Calls Try.prog 149 #[] w fun e w' => ∃ v0_ : Value, e = .returned (v0_) ∧ Kd.R k160 160 w' w.heap.size (fun _ => True) v0_ r ∧ Below w.heap.size w w' := by
 have hu160 := Try.underlying160
 have HB := Aside0.mk (Below.refl w.heap.size w)
 have H : (some (([(⟨0, 31, 4⟩ : S160), (⟨127, 127, 5⟩ : S160), (⟨128, 159, 6⟩ : S160), (⟨160, 160, 10⟩ : S160), (⟨5760, 5760, 10⟩ : S160), (⟨8192, 8202, 10⟩ : S160), (⟨8232, 8233, 10⟩ : S160), (⟨8239, 8239, 10⟩ : S160), (⟨8287, 8287, 10⟩ : S160), (⟨12288, 12288, 10⟩ : S160), (⟨173, 173, 8⟩ : S160), (⟨6155, 6158, 8⟩ : S160), (⟨8203, 8205, 8⟩ : S160), (⟨8288, 8292, 8⟩ : S160), (⟨65279, 65279, 8⟩ : S160), (⟨65529, 65531, 8⟩ : S160), (⟨1564, 1564, 7⟩ : S160), (⟨8206, 8207, 7⟩ : S160), (⟨8234, 8238, 7⟩ : S160), (⟨8294, 8297, 7⟩ : S160), (⟨768, 879, 9⟩ : S160), (⟨1155, 1161, 9⟩ : S160), (⟨1425, 1469, 9⟩ : S160), (⟨1552, 1562, 9⟩ : S160), (⟨1611, 1631, 9⟩ : S160), (⟨1750, 1756, 9⟩ : S160), (⟨6832, 6862, 9⟩ : S160), (⟨7616, 7679, 9⟩ : S160), (⟨8400, 8432, 9⟩ : S160), (⟨12330, 12335, 9⟩ : S160), (⟨12441, 12442, 9⟩ : S160), (⟨65024, 65039, 9⟩ : S160), (⟨65056, 65071, 9⟩ : S160), (⟨57344, 63743, 11⟩ : S160), (⟨64976, 65007, 11⟩ : S160), (⟨65520, 65528, 11⟩ : S160), (⟨65534, 65535, 11⟩ : S160), (⟨131070, 131071, 11⟩ : S160), (⟨262142, 1114111, 11⟩ : S160)] : List (S160)))) = some r := h
 clear h
 obtain ⟨y101, hy101⟩ : ∃ y_ : List (S160), y_ = (([(⟨0, 31, 4⟩ : S160), (⟨127, 127, 5⟩ : S160), (⟨128, 159, 6⟩ : S160), (⟨160, 160, 10⟩ : S160), (⟨5760, 5760, 10⟩ : S160), (⟨8192, 8202, 10⟩ : S160), (⟨8232, 8233, 10⟩ : S160), (⟨8239, 8239, 10⟩ : S160), (⟨8287, 8287, 10⟩ : S160), (⟨12288, 12288, 10⟩ : S160), (⟨173, 173, 8⟩ : S160), (⟨6155, 6158, 8⟩ : S160), (⟨8203, 8205, 8⟩ : S160), (⟨8288, 8292, 8⟩ : S160), (⟨65279, 65279, 8⟩ : S160), (⟨65529, 65531, 8⟩ : S160), (⟨1564, 1564, 7⟩ : S160), (⟨8206, 8207, 7⟩ : S160), (⟨8234, 8238, 7⟩ : S160), (⟨8294, 8297, 7⟩ : S160), (⟨768, 879, 9⟩ : S160), (⟨1155, 1161, 9⟩ : S160), (⟨1425, 1469, 9⟩ : S160), (⟨1552, 1562, 9⟩ : S160), (⟨1611, 1631, 9⟩ : S160), (⟨1750, 1756, 9⟩ : S160), (⟨6832, 6862, 9⟩ : S160), (⟨7616, 7679, 9⟩ : S160), (⟨8400, 8432, 9⟩ : S160), (⟨12330, 12335, 9⟩ : S160), (⟨12441, 12442, 9⟩ : S160), (⟨65024, 65039, 9⟩ : S160), (⟨65056, 65071, 9⟩ : S160), (⟨57344, 63743, 11⟩ : S160), (⟨64976, 65007, 11⟩ : S160), (⟨65520, 65528, 11⟩ : S160), (⟨65534, 65535, 11⟩ : S160), (⟨131070, 131071, 11⟩ : S160), (⟨262142, 1114111, 11⟩ : S160)] : List (S160))) := ⟨_, rfl⟩
 replace H : (some y101) = some r := by first | (rw [hy101]; with_reducible exact H) | (have H2_ := (Option.bind_some _ _).symm.trans H; rw [hy101]; with_reducible exact H2_) | (have H2_ := (Option.bind_some _ _).symm.trans H; with_reducible exact H2_) | with_reducible exact H | (rw [hy101]; exact H) | exact H
 have Ny101 := Aside0.mk hy101
 clear hy101
 obtain rfl := Option.some.inj H
 go_enter Try.func149, Try.ntmps149
 go_wp2_with (first | ((with_reducible refine gate_dst (N := 40) rfl ?_); refine Kd.R_lit k160 _ 160 ?hg (N := 40) ?hd (xs := ([(⟨0, 31, 4⟩ : S160), (⟨127, 127, 5⟩ : S160), (⟨128, 159, 6⟩ : S160), (⟨160, 160, 10⟩ : S160), (⟨5760, 5760, 10⟩ : S160), (⟨8192, 8202, 10⟩ : S160), (⟨8232, 8233, 10⟩ : S160), (⟨8239, 8239, 10⟩ : S160), (⟨8287, 8287, 10⟩ : S160), (⟨12288, 12288, 10⟩ : S160), (⟨173, 173, 8⟩ : S160), (⟨6155, 6158, 8⟩ : S160), (⟨8203, 8205, 8⟩ : S160), (⟨8288, 8292, 8⟩ : S160), (⟨65279, 65279, 8⟩ : S160), (⟨65529, 65531, 8⟩ : S160), (⟨1564, 1564, 7⟩ : S160), (⟨8206, 8207, 7⟩ : S160), (⟨8234, 8238, 7⟩ : S160), (⟨8294, 8297, 7⟩ : S160), (⟨768, 879, 9⟩ : S160), (⟨1155, 1161, 9⟩ : S160), (⟨1425, 1469, 9⟩ : S160), (⟨1552, 1562, 9⟩ : S160), (⟨1611, 1631, 9⟩ : S160), (⟨1750, 1756, 9⟩ : S160), (⟨6832, 6862, 9⟩ : S160), (⟨7616, 7679, 9⟩ : S160), (⟨8400, 8432, 9⟩ : S160), (⟨12330, 12335, 9⟩ : S160), (⟨12441, 12442, 9⟩ : S160), (⟨65024, 65039, 9⟩ : S160), (⟨65056, 65071, 9⟩ : S160), (⟨57344, 63743, 11⟩ : S160), (⟨64976, 65007, 11⟩ : S160), (⟨65520, 65528, 11⟩ : S160), (⟨65534, 65535, 11⟩ : S160), (⟨131070, 131071, 11⟩ : S160), (⟨262142, 1114111, 11⟩ : S160)] : List (S160))) (inner := [.int .i64 0, .int .i64 31, .int .i64 4, .int .i64 127, .int .i64 127, .int .i64 5, .int .i64 128, .int .i64 159, .int .i64 6, .int .i64 160, .int .i64 160, .int .i64 10, .int .i64 5760, .int .i64 5760, .int .i64 10, .int .i64 8192, .int .i64 8202, .int .i64 10, .int .i64 8232, .int .i64 8233, .int .i64 10, .int .i64 8239, .int .i64 8239, .int .i64 10, .int .i64 8287, .int .i64 8287, .int .i64 10, .int .i64 12288, .int .i64 12288, .int .i64 10, .int .i64 173, .int .i64 173, .int .i64 8, .int .i64 6155, .int .i64 6158, .int .i64 8, .int .i64 8203, .int .i64 8205, .int .i64 8, .int .i64 8288, .int .i64 8292, .int .i64 8, .int .i64 65279, .int .i64 65279, .int .i64 8, .int .i64 65529, .int .i64 65531, .int .i64 8, .int .i64 1564, .int .i64 1564, .int .i64 7, .int .i64 8206, .int .i64 8207, .int .i64 7, .int .i64 8234, .int .i64 8238, .int .i64 7, .int .i64 8294, .int .i64 8297, .int .i64 7, .int .i64 768, .int .i64 879, .int .i64 9, .int .i64 1155, .int .i64 1161, .int .i64 9, .int .i64 1425, .int .i64 1469, .int .i64 9, .int .i64 1552, .int .i64 1562, .int .i64 9, .int .i64 1611, .int .i64 1631, .int .i64 9, .int .i64 1750, .int .i64 1756, .int .i64 9, .int .i64 6832, .int .i64 6862, .int .i64 9, .int .i64 7616, .int .i64 7679, .int .i64 9, .int .i64 8400, .int .i64 8432, .int .i64 9, .int .i64 12330, .int .i64 12335, .int .i64 9, .int .i64 12441, .int .i64 12442, .int .i64 9, .int .i64 65024, .int .i64 65039, .int .i64 9, .int .i64 65056, .int .i64 65071, .int .i64 9, .int .i64 57344, .int .i64 63743, .int .i64 11, .int .i64 64976, .int .i64 65007, .int .i64 11, .int .i64 65520, .int .i64 65528, .int .i64 11, .int .i64 65534, .int .i64 65535, .int .i64 11, .int .i64 131070, .int .i64 131071, .int .i64 11, .int .i64 262142, .int .i64 1114111, .int .i64 11]) (ok := fun _ => True) (okp := fun _ => True) ?hr ?hp (fun _ hk => hk) trivial (Below.refl _ _) (Nat.le_refl _) (by simp) ?_; (case hd => rfl); (case hg => rfl); (case hr => first | (go_simp; done) | (go_simp; rfl)); (case hp => exact (Reps.c3 (show Kd.M k160 _ _ _ (⟨0, 31, 4⟩ : S160) [.int .i64 0, .int .i64 31, .int .i64 4] from (k160_mkM _ _ _ (⟨0, 31, 4⟩ : S160) )) (Reps.c3 (show Kd.M k160 _ _ _ (⟨127, 127, 5⟩ : S160) [.int .i64 127, .int .i64 127, .int .i64 5] from (k160_mkM _ _ _ (⟨127, 127, 5⟩ : S160) )) (Reps.c3 (show Kd.M k160 _ _ _ (⟨128, 159, 6⟩ : S160) [.int .i64 128, .int .i64 159, .int .i64 6] from (k160_mkM _ _ _ (⟨128, 159, 6⟩ : S160) )) (Reps.c3 (show Kd.M k160 _ _ _ (⟨160, 160, 10⟩ : S160) [.int .i64 160, .int .i64 160, .int .i64 10] from (k160_mkM _ _ _ (⟨160, 160, 10⟩ : S160) )) (Reps.c3 (show Kd.M k160 _ _ _ (⟨5760, 5760, 10⟩ : S160) [.int .i64 5760, .int .i64 5760, .int .i64 10] from (k160_mkM _ _ _ (⟨5760, 5760, 10⟩ : S160) )) (Reps.c3 (show Kd.M k160 _ _ _ (⟨8192, 8202, 10⟩ : S160) [.int .i64 8192, .int .i64 8202, .int .i64 10] from (k160_mkM _ _ _ (⟨8192, 8202, 10⟩ : S160) )) (Reps.c3 (show Kd.M k160 _ _ _ (⟨8232, 8233, 10⟩ : S160) [.int .i64 8232, .int .i64 8233, .int .i64 10] from (k160_mkM _ _ _ (⟨8232, 8233, 10⟩ : S160) )) (Reps.c3 (show Kd.M k160 _ _ _ (⟨8239, 8239, 10⟩ : S160) [.int .i64 8239, .int .i64 8239, .int .i64 10] from (k160_mkM _ _ _ (⟨8239, 8239, 10⟩ : S160) )) (Reps.c3 (show Kd.M k160 _ _ _ (⟨8287, 8287, 10⟩ : S160) [.int .i64 8287, .int .i64 8287, .int .i64 10] from (k160_mkM _ _ _ (⟨8287, 8287, 10⟩ : S160) )) (Reps.c3 (show Kd.M k160 _ _ _ (⟨12288, 12288, 10⟩ : S160) [.int .i64 12288, .int .i64 12288, .int .i64 10] from (k160_mkM _ _ _ (⟨12288, 12288, 10⟩ : S160) )) (Reps.c3 (show Kd.M k160 _ _ _ (⟨173, 173, 8⟩ : S160) [.int .i64 173, .int .i64 173, .int .i64 8] from (k160_mkM _ _ _ (⟨173, 173, 8⟩ : S160) )) (Reps.c3 (show Kd.M k160 _ _ _ (⟨6155, 6158, 8⟩ : S160) [.int .i64 6155, .int .i64 6158, .int .i64 8] from (k160_mkM _ _ _ (⟨6155, 6158, 8⟩ : S160) )) (Reps.c3 (show Kd.M k160 _ _ _ (⟨8203, 8205, 8⟩ : S160) [.int .i64 8203, .int .i64 8205, .int .i64 8] from (k160_mkM _ _ _ (⟨8203, 8205, 8⟩ : S160) )) (Reps.c3 (show Kd.M k160 _ _ _ (⟨8288, 8292, 8⟩ : S160) [.int .i64 8288, .int .i64 8292, .int .i64 8] from (k160_mkM _ _ _ (⟨8288, 8292, 8⟩ : S160) )) (Reps.c3 (show Kd.M k160 _ _ _ (⟨65279, 65279, 8⟩ : S160) [.int .i64 65279, .int .i64 65279, .int .i64 8] from (k160_mkM _ _ _ (⟨65279, 65279, 8⟩ : S160) )) (Reps.c3 (show Kd.M k160 _ _ _ (⟨65529, 65531, 8⟩ : S160) [.int .i64 65529, .int .i64 65531, .int .i64 8] from (k160_mkM _ _ _ (⟨65529, 65531, 8⟩ : S160) )) (Reps.c3 (show Kd.M k160 _ _ _ (⟨1564, 1564, 7⟩ : S160) [.int .i64 1564, .int .i64 1564, .int .i64 7] from (k160_mkM _ _ _ (⟨1564, 1564, 7⟩ : S160) )) (Reps.c3 (show Kd.M k160 _ _ _ (⟨8206, 8207, 7⟩ : S160) [.int .i64 8206, .int .i64 8207, .int .i64 7] from (k160_mkM _ _ _ (⟨8206, 8207, 7⟩ : S160) )) (Reps.c3 (show Kd.M k160 _ _ _ (⟨8234, 8238, 7⟩ : S160) [.int .i64 8234, .int .i64 8238, .int .i64 7] from (k160_mkM _ _ _ (⟨8234, 8238, 7⟩ : S160) )) (Reps.c3 (show Kd.M k160 _ _ _ (⟨8294, 8297, 7⟩ : S160) [.int .i64 8294, .int .i64 8297, .int .i64 7] from (k160_mkM _ _ _ (⟨8294, 8297, 7⟩ : S160) )) (Reps.c3 (show Kd.M k160 _ _ _ (⟨768, 879, 9⟩ : S160) [.int .i64 768, .int .i64 879, .int .i64 9] from (k160_mkM _ _ _ (⟨768, 879, 9⟩ : S160) )) (Reps.c3 (show Kd.M k160 _ _ _ (⟨1155, 1161, 9⟩ : S160) [.int .i64 1155, .int .i64 1161, .int .i64 9] from (k160_mkM _ _ _ (⟨1155, 1161, 9⟩ : S160) )) (Reps.c3 (show Kd.M k160 _ _ _ (⟨1425, 1469, 9⟩ : S160) [.int .i64 1425, .int .i64 1469, .int .i64 9] from (k160_mkM _ _ _ (⟨1425, 1469, 9⟩ : S160) )) (Reps.c3 (show Kd.M k160 _ _ _ (⟨1552, 1562, 9⟩ : S160) [.int .i64 1552, .int .i64 1562, .int .i64 9] from (k160_mkM _ _ _ (⟨1552, 1562, 9⟩ : S160) )) (Reps.c3 (show Kd.M k160 _ _ _ (⟨1611, 1631, 9⟩ : S160) [.int .i64 1611, .int .i64 1631, .int .i64 9] from (k160_mkM _ _ _ (⟨1611, 1631, 9⟩ : S160) )) (Reps.c3 (show Kd.M k160 _ _ _ (⟨1750, 1756, 9⟩ : S160) [.int .i64 1750, .int .i64 1756, .int .i64 9] from (k160_mkM _ _ _ (⟨1750, 1756, 9⟩ : S160) )) (Reps.c3 (show Kd.M k160 _ _ _ (⟨6832, 6862, 9⟩ : S160) [.int .i64 6832, .int .i64 6862, .int .i64 9] from (k160_mkM _ _ _ (⟨6832, 6862, 9⟩ : S160) )) (Reps.c3 (show Kd.M k160 _ _ _ (⟨7616, 7679, 9⟩ : S160) [.int .i64 7616, .int .i64 7679, .int .i64 9] from (k160_mkM _ _ _ (⟨7616, 7679, 9⟩ : S160) )) (Reps.c3 (show Kd.M k160 _ _ _ (⟨8400, 8432, 9⟩ : S160) [.int .i64 8400, .int .i64 8432, .int .i64 9] from (k160_mkM _ _ _ (⟨8400, 8432, 9⟩ : S160) )) (Reps.c3 (show Kd.M k160 _ _ _ (⟨12330, 12335, 9⟩ : S160) [.int .i64 12330, .int .i64 12335, .int .i64 9] from (k160_mkM _ _ _ (⟨12330, 12335, 9⟩ : S160) )) (Reps.c3 (show Kd.M k160 _ _ _ (⟨12441, 12442, 9⟩ : S160) [.int .i64 12441, .int .i64 12442, .int .i64 9] from (k160_mkM _ _ _ (⟨12441, 12442, 9⟩ : S160) )) (Reps.c3 (show Kd.M k160 _ _ _ (⟨65024, 65039, 9⟩ : S160) [.int .i64 65024, .int .i64 65039, .int .i64 9] from (k160_mkM _ _ _ (⟨65024, 65039, 9⟩ : S160) )) (Reps.c3 (show Kd.M k160 _ _ _ (⟨65056, 65071, 9⟩ : S160) [.int .i64 65056, .int .i64 65071, .int .i64 9] from (k160_mkM _ _ _ (⟨65056, 65071, 9⟩ : S160) )) (Reps.c3 (show Kd.M k160 _ _ _ (⟨57344, 63743, 11⟩ : S160) [.int .i64 57344, .int .i64 63743, .int .i64 11] from (k160_mkM _ _ _ (⟨57344, 63743, 11⟩ : S160) )) (Reps.c3 (show Kd.M k160 _ _ _ (⟨64976, 65007, 11⟩ : S160) [.int .i64 64976, .int .i64 65007, .int .i64 11] from (k160_mkM _ _ _ (⟨64976, 65007, 11⟩ : S160) )) (Reps.c3 (show Kd.M k160 _ _ _ (⟨65520, 65528, 11⟩ : S160) [.int .i64 65520, .int .i64 65528, .int .i64 11] from (k160_mkM _ _ _ (⟨65520, 65528, 11⟩ : S160) )) (Reps.c3 (show Kd.M k160 _ _ _ (⟨65534, 65535, 11⟩ : S160) [.int .i64 65534, .int .i64 65535, .int .i64 11] from (k160_mkM _ _ _ (⟨65534, 65535, 11⟩ : S160) )) (Reps.c3 (show Kd.M k160 _ _ _ (⟨131070, 131071, 11⟩ : S160) [.int .i64 131070, .int .i64 131071, .int .i64 11] from (k160_mkM _ _ _ (⟨131070, 131071, 11⟩ : S160) )) (Reps.c3 (show Kd.M k160 _ _ _ (⟨262142, 1114111, 11⟩ : S160) [.int .i64 262142, .int .i64 1114111, .int .i64 11] from (k160_mkM _ _ _ (⟨262142, 1114111, 11⟩ : S160) )) (Reps.none _ _))))))))))))))))))))))))))))))))))))))))); intro v102 w1 ho2 hb hg_ hnew_; clear hg_ hnew_; (first | rw [← Ny101.out] at ho2 | (simp only [Int.reduceToNat] at ho2; rw [← Ny101.out] at ho2)); have HO103 := a0 (Kd.R_lower ho2 (below_size HB.out)); replace HB := a0 (below_step HB.out hb); clear hb ho2))
 go_ret
 exact ⟨_, by first | rfl | (simp [errW_none, errW_some] <;> rfl) | (simp [*, errW_none, errW_some] <;> rfl), by exact HO103.out, by repeat (first | (with_reducible first | exact HB.out | apply below_alloc | apply pw_below_drewN | apply below_drew1) | exact HB.out)⟩

end Go.Proofs.Ytemoocoedibbpab.X

namespace Go.Proofs.Ytemoocoedibbpab.X
open Go.RowKit Go.Proofs.YtemoocoedibbpabW.PrintWords Go.Proofs.YtemoocoedibbpabW.PrintLast Go.Proofs.YtemoocoedibbpabW.PrintMore
attribute [local go_sem] max2_int min2_int max_two min_two max_three min_three max_four min_four
set_option linter.unusedVariables false
set_option linter.unusedSimpArgs false

/-! #### struct type 166 -/
structure S166 where
  f0 : Int
  f1 : Int
def z166 : S166 := ⟨(0 : Int), (0 : Int)⟩
def k166 : Kd S166 := Kd.iso (Kd.pair (Kd.int .i64) (Kd.int .i64)) (fun x : S166 => (x.f0, x.f1))
theorem k166_heap : Kd.Heap k166 := Kd.heap_iso _ (Kd.heap_pair (Kd.heap_int .i64) (Kd.heap_int .i64))
theorem k166_open {w : World} {x : S166} {cs : List Value} (h : k166.K w x cs) : cs = [.int .i64 x.f0, .int .i64 x.f1] := by
  obtain ⟨_, _, rfl, rfl, rfl⟩ := h
  exact rfl
theorem k166_openM {w : World} {base : Nat} {ok : Nat → Prop} {x : S166} {cs : List Value} (h : k166.M w base ok x cs) : cs = [.int .i64 x.f0, .int .i64 x.f1] := by
  obtain ⟨_, _, rfl, rfl, rfl⟩ := h
  exact rfl
theorem k166_mk (w : World) (x : S166)  : k166.K w x [.int .i64 x.f0, .int .i64 x.f1] := ⟨[.int .i64 x.f0], [.int .i64 x.f1], rfl, rfl, rfl⟩
theorem k166_mkM (w : World) (base : Nat) (ok : Nat → Prop) (x : S166)  : k166.M w base ok x [.int .i64 x.f0, .int .i64 x.f1] := ⟨[.int .i64 x.f0], [.int .i64 x.f1], rfl, rfl, rfl⟩
theorem k166_mkF (W : World) (ok : Nat → Prop) (x : S166) : Kd.FK k166 W ok x [.int .i64 x.f0, .int .i64 x.f1] := fun W2 _ => k166_mk W2 x
def rd_T166 (xs : List S166) (i : Int) : S166 := xs.getD i.toNat z166
theorem at_T166 {w : World} {A : Option Addr} {n : Nat} {xs : List S166} (h : Kd.C k166 w A n xs) (i : Int) (h0 : 0 ≤ i) (h1 : i < n) : ∃ ad , A = some ad ∧ w.cell? (ad.add (i.toNat * 2)) = some (.int .i64 (rd_T166 xs i).f0) ∧ w.cell? ⟨(ad.add (i.toNat * 2)).block, (ad.add (i.toNat * 2)).off + 1, none⟩ = some (.int .i64 (rd_T166 xs i).f1) := by
  obtain ⟨ad, c, e, _, hK, hc0⟩ := Kd.C_get h z166 i h0 h1
  have hc : ∀ j u, c[j]? = some u → w.cell? (ad.add (i.toNat * 2 + j)) = some u := hc0
  obtain rfl := k166_open hK
  exact ⟨ad, e, hc 0 _ rfl, by rw [← add_field _ _ 1 (by omega)]; exact hc 1 _ rfl⟩

def rd_L39 (xs : List (List S166)) (i : Int) : (List S166) := xs.getD i.toNat ([] : List S166)
theorem at_L39 {w : World} {A : Option Addr} {n : Nat} {xs : List (List S166)} (h : Kd.C (Kd.slice 166 k166) w A n xs) (i : Int) (h0 : 0 ≤ i) (h1 : i < n) : ∃ ad A0 c0, A = some ad ∧ w.cell? (ad.add i.toNat) = some (.slice A0 (rd_L39 xs i).length c0) ∧ (rd_L39 xs i).length ≤ c0 ∧ k166.C w A0 (rd_L39 xs i).length (rd_L39 xs i) := by
  obtain ⟨ad, c, e, _, hK, hc0⟩ := Kd.C_get h ([] : List S166) i h0 h1
  have hc : ∀ j u, c[j]? = some u → w.cell? (ad.add (i.toNat * 1 + j)) = some u := hc0
  obtain ⟨A0, c0, rfl, l0, g0⟩ := hK
  exact ⟨ad, A0, c0, e, by have hq := hc 0 _ rfl; rwa [Nat.mul_one, Nat.add_zero] at hq, l0, g0⟩


end Go.Proofs.Ytemoocoedibbpab.X

namespace Go.Proofs.Ytemoocoedibbpab.X
open Go.RowKit Go.Proofs.YtemoocoedibbpabW.PrintWords Go.Proofs.YtemoocoedibbpabW.PrintLast Go.Proofs.YtemoocoedibbpabW.PrintMore
attribute [local go_sem] max2_int min2_int max_two min_two max_three min_three max_four min_four
set_option linter.unusedVariables false
set_option linter.unusedSimpArgs false

/-! ### class_looks: function 167 -/
def class_looks.f  : Option ((List (S166))) := some (([(⟨913, 65⟩ : S166), (⟨914, 66⟩ : S166), (⟨917, 69⟩ : S166), (⟨918, 90⟩ : S166), (⟨919, 72⟩ : S166), (⟨921, 73⟩ : S166), (⟨922, 75⟩ : S166), (⟨924, 77⟩ : S166), (⟨925, 78⟩ : S166), (⟨927, 79⟩ : S166), (⟨929, 80⟩ : S166), (⟨932, 84⟩ : S166), (⟨933, 89⟩ : S166), (⟨935, 88⟩ : S166), (⟨957, 118⟩ : S166), (⟨959, 111⟩ : S166), (⟨961, 112⟩ : S166), (⟨1029, 83⟩ : S166), (⟨1030, 73⟩ : S166), (⟨1032, 74⟩ : S166), (⟨1040, 65⟩ : S166), (⟨1042, 66⟩ : S166), (⟨1045, 69⟩ : S166), (⟨1050, 75⟩ : S166), (⟨1052, 77⟩ : S166), (⟨1053, 72⟩ : S166), (⟨1054, 79⟩ : S166), (⟨1056, 80⟩ : S166), (⟨1057, 67⟩ : S166), (⟨1058, 84⟩ : S166), (⟨1061, 88⟩ : S166), (⟨1072, 97⟩ : S166), (⟨1077, 101⟩ : S166), (⟨1086, 111⟩ : S166), (⟨1088, 112⟩ : S166), (⟨1089, 99⟩ : S166), (⟨1091, 121⟩ : S166), (⟨1093, 120⟩ : S166), (⟨1109, 115⟩ : S166), (⟨1110, 105⟩ : S166), (⟨1112, 106⟩ : S166), (⟨1281, 100⟩ : S166), (⟨1307, 113⟩ : S166), (⟨1309, 119⟩ : S166), (⟨894, 59⟩ : S166), (⟨8208, 45⟩ : S166), (⟨8722, 45⟩ : S166), (⟨8260, 47⟩ : S166), (⟨8725, 47⟩ : S166), (⟨8228, 46⟩ : S166), (⟨8218, 44⟩ : S166)] : List (S166)))
set_option maxHeartbeats 8000000 in
set_option maxRecDepth 100000 in
theorem class_looks.calls  (r : List (S166)) (w : World) (h : class_looks.f  = some r) :
  Calls Try.prog 167 #[] w fun e w' => ∃ v0_ : Value, e = .returned (v0_) ∧ Kd.R k166 166 w' w.heap.size (fun _ => True) v0_ r ∧ Below w.heap.size w w' := by
 have hu166 := Try.underlying166
 have HB := Aside0.mk (Below.refl w.heap.size w)
 have H : (some (([(⟨913, 65⟩ : S166), (⟨914, 66⟩ : S166), (⟨917, 69⟩ : S166), (⟨918, 90⟩ : S166), (⟨919, 72⟩ : S166), (⟨921, 73⟩ : S166), (⟨922, 75⟩ : S166), (⟨924, 77⟩ : S166), (⟨925, 78⟩ : S166), (⟨927, 79⟩ : S166), (⟨929, 80⟩ : S166), (⟨932, 84⟩ : S166), (⟨933, 89⟩ : S166), (⟨935, 88⟩ : S166), (⟨957, 118⟩ : S166), (⟨959, 111⟩ : S166), (⟨961, 112⟩ : S166), (⟨1029, 83⟩ : S166), (⟨1030, 73⟩ : S166), (⟨1032, 74⟩ : S166), (⟨1040, 65⟩ : S166), (⟨1042, 66⟩ : S166), (⟨1045, 69⟩ : S166), (⟨1050, 75⟩ : S166), (⟨1052, 77⟩ : S166), (⟨1053, 72⟩ : S166), (⟨1054, 79⟩ : S166), (⟨1056, 80⟩ : S166), (⟨1057, 67⟩ : S166), (⟨1058, 84⟩ : S166), (⟨1061, 88⟩ : S166), (⟨1072, 97⟩ : S166), (⟨1077, 101⟩ : S166), (⟨1086, 111⟩ : S166), (⟨1088, 112⟩ : S166), (⟨1089, 99⟩ : S166), (⟨1091, 121⟩ : S166), (⟨1093, 120⟩ : S166), (⟨1109, 115⟩ : S166), (⟨1110, 105⟩ : S166), (⟨1112, 106⟩ : S166), (⟨1281, 100⟩ : S166), (⟨1307, 113⟩ : S166), (⟨1309, 119⟩ : S166), (⟨894, 59⟩ : S166), (⟨8208, 45⟩ : S166), (⟨8722, 45⟩ : S166), (⟨8260, 47⟩ : S166), (⟨8725, 47⟩ : S166), (⟨8228, 46⟩ : S166), (⟨8218, 44⟩ : S166)] : List (S166)))) = some r := h
 clear h
 obtain ⟨y101, hy101⟩ : ∃ y_ : List (S166), y_ = (([(⟨913, 65⟩ : S166), (⟨914, 66⟩ : S166), (⟨917, 69⟩ : S166), (⟨918, 90⟩ : S166), (⟨919, 72⟩ : S166), (⟨921, 73⟩ : S166), (⟨922, 75⟩ : S166), (⟨924, 77⟩ : S166), (⟨925, 78⟩ : S166), (⟨927, 79⟩ : S166), (⟨929, 80⟩ : S166), (⟨932, 84⟩ : S166), (⟨933, 89⟩ : S166), (⟨935, 88⟩ : S166), (⟨957, 118⟩ : S166), (⟨959, 111⟩ : S166), (⟨961, 112⟩ : S166), (⟨1029, 83⟩ : S166), (⟨1030, 73⟩ : S166), (⟨1032, 74⟩ : S166), (⟨1040, 65⟩ : S166), (⟨1042, 66⟩ : S166), (⟨1045, 69⟩ : S166), (⟨1050, 75⟩ : S166), (⟨1052, 77⟩ : S166), (⟨1053, 72⟩ : S166), (⟨1054, 79⟩ : S166), (⟨1056, 80⟩ : S166), (⟨1057, 67⟩ : S166), (⟨1058, 84⟩ : S166), (⟨1061, 88⟩ : S166), (⟨1072, 97⟩ : S166), (⟨1077, 101⟩ : S166), (⟨1086, 111⟩ : S166), (⟨1088, 112⟩ : S166), (⟨1089, 99⟩ : S166), (⟨1091, 121⟩ : S166), (⟨1093, 120⟩ : S166), (⟨1109, 115⟩ : S166), (⟨1110, 105⟩ : S166), (⟨1112, 106⟩ : S166), (⟨1281, 100⟩ : S166), (⟨1307, 113⟩ : S166), (⟨1309, 119⟩ : S166), (⟨894, 59⟩ : S166), (⟨8208, 45⟩ : S166), (⟨8722, 45⟩ : S166), (⟨8260, 47⟩ : S166), (⟨8725, 47⟩ : S166), (⟨8228, 46⟩ : S166), (⟨8218, 44⟩ : S166)] : List (S166))) := ⟨_, rfl⟩
 replace H : (some y101) = some r := by first | (rw [hy101]; with_reducible exact H) | (have H2_ := (Option.bind_some _ _).symm.trans H; rw [hy101]; with_reducible exact H2_) | (have H2_ := (Option.bind_some _ _).symm.trans H; with_reducible exact H2_) | with_reducible exact H | (rw [hy101]; exact H) | exact H
 have Ny101 := Aside0.mk hy101
 clear hy101
 obtain rfl := Option.some.inj H
 go_enter Try.func167, Try.ntmps167
 go_wp2_with (first | ((with_reducible refine gate_dst (N := 52) rfl ?_); refine Kd.R_lit k166 _ 166 ?hg (N := 52) ?hd (xs := ([(⟨913, 65⟩ : S166), (⟨914, 66⟩ : S166), (⟨917, 69⟩ : S166), (⟨918, 90⟩ : S166), (⟨919, 72⟩ : S166), (⟨921, 73⟩ : S166), (⟨922, 75⟩ : S166), (⟨924, 77⟩ : S166), (⟨925, 78⟩ : S166), (⟨927, 79⟩ : S166), (⟨929, 80⟩ : S166), (⟨932, 84⟩ : S166), (⟨933, 89⟩ : S166), (⟨935, 88⟩ : S166), (⟨957, 118⟩ : S166), (⟨959, 111⟩ : S166), (⟨961, 112⟩ : S166), (⟨1029, 83⟩ : S166), (⟨1030, 73⟩ : S166), (⟨1032, 74⟩ : S166), (⟨1040, 65⟩ : S166), (⟨1042, 66⟩ : S166), (⟨1045, 69⟩ : S166), (⟨1050, 75⟩ : S166), (⟨1052, 77⟩ : S166), (⟨1053, 72⟩ : S166), (⟨1054, 79⟩ : S166), (⟨1056, 80⟩ : S166), (⟨1057, 67⟩ : S166), (⟨1058, 84⟩ : S166), (⟨1061, 88⟩ : S166), (⟨1072, 97⟩ : S166), (⟨1077, 101⟩ : S166), (⟨1086, 111⟩ : S166), (⟨1088, 112⟩ : S166), (⟨1089, 99⟩ : S166), (⟨1091, 121⟩ : S166), (⟨1093, 120⟩ : S166), (⟨1109, 115⟩ : S166), (⟨1110, 105⟩ : S166), (⟨1112, 106⟩ : S166), (⟨1281, 100⟩ : S166), (⟨1307, 113⟩ : S166), (⟨1309, 119⟩ : S166), (⟨894, 59⟩ : S166), (⟨8208, 45⟩ : S166), (⟨8722, 45⟩ : S166), (⟨8260, 47⟩ : S166), (⟨8725, 47⟩ : S166), (⟨8228, 46⟩ : S166), (⟨8218, 44⟩ : S166)] : List (S166))) (inner := [.int .i64 913, .int .i64 65, .int .i64 914, .int .i64 66, .int .i64 917, .int .i64 69, .int .i64 918, .int .i64 90, .int .i64 919, .int .i64 72, .int .i64 921, .int .i64 73, .int .i64 922, .int .i64 75, .int .i64 924, .int .i64 77, .int .i64 925, .int .i64 78, .int .i64 927, .int .i64 79, .int .i64 929, .int .i64 80, .int .i64 932, .int .i64 84, .int .i64 933, .int .i64 89, .int .i64 935, .int .i64 88, .int .i64 957, .int .i64 118, .int .i64 959, .int .i64 111, .int .i64 961, .int .i64 112, .int .i64 1029, .int .i64 83, .int .i64 1030, .int .i64 73, .int .i64 1032, .int .i64 74, .int .i64 1040, .int .i64 65, .int .i64 1042, .int .i64 66, .int .i64 1045, .int .i64 69, .int .i64 1050, .int .i64 75, .int .i64 1052, .int .i64 77, .int .i64 1053, .int .i64 72, .int .i64 1054, .int .i64 79, .int .i64 1056, .int .i64 80, .int .i64 1057, .int .i64 67, .int .i64 1058, .int .i64 84, .int .i64 1061, .int .i64 88, .int .i64 1072, .int .i64 97, .int .i64 1077, .int .i64 101, .int .i64 1086, .int .i64 111, .int .i64 1088, .int .i64 112, .int .i64 1089, .int .i64 99, .int .i64 1091, .int .i64 121, .int .i64 1093, .int .i64 120, .int .i64 1109, .int .i64 115, .int .i64 1110, .int .i64 105, .int .i64 1112, .int .i64 106, .int .i64 1281, .int .i64 100, .int .i64 1307, .int .i64 113, .int .i64 1309, .int .i64 119, .int .i64 894, .int .i64 59, .int .i64 8208, .int .i64 45, .int .i64 8722, .int .i64 45, .int .i64 8260, .int .i64 47, .int .i64 8725, .int .i64 47, .int .i64 8228, .int .i64 46, .int .i64 8218, .int .i64 44]) (ok := fun _ => True) (okp := fun _ => True) ?hr ?hp (fun _ hk => hk) trivial (Below.refl _ _) (Nat.le_refl _) (by simp) ?_; (case hd => rfl); (case hg => rfl); (case hr => first | (go_simp; done) | (go_simp; rfl)); (case hp => exact (Reps.c2 (show Kd.M k166 _ _ _ (⟨913, 65⟩ : S166) [.int .i64 913, .int .i64 65] from (k166_mkM _ _ _ (⟨913, 65⟩ : S166) )) (Reps.c2 (show Kd.M k166 _ _ _ (⟨914, 66⟩ : S166) [.int .i64 914, .int .i64 66] from (k166_mkM _ _ _ (⟨914, 66⟩ : S166) )) (Reps.c2 (show Kd.M k166 _ _ _ (⟨917, 69⟩ : S166) [.int .i64 917, .int .i64 69] from (k166_mkM _ _ _ (⟨917, 69⟩ : S166) )) (Reps.c2 (show Kd.M k166 _ _ _ (⟨918, 90⟩ : S166) [.int .i64 918, .int .i64 90] from (k166_mkM _ _ _ (⟨918, 90⟩ : S166) )) (Reps.c2 (show Kd.M k166 _ _ _ (⟨919, 72⟩ : S166) [.int .i64 919, .int .i64 72] from (k166_mkM _ _ _ (⟨919, 72⟩ : S166) )) (Reps.c2 (show Kd.M k166 _ _ _ (⟨921, 73⟩ : S166) [.int .i64 921, .int .i64 73] from (k166_mkM _ _ _ (⟨921, 73⟩ : S166) )) (Reps.c2 (show Kd.M k166 _ _ _ (⟨922, 75⟩ : S166) [.int .i64 922, .int .i64 75] from (k166_mkM _ _ _ (⟨922, 75⟩ : S166) )) (Reps.c2 (show Kd.M k166 _ _ _ (⟨924, 77⟩ : S166) [.int .i64 924, .int .i64 77] from (k166_mkM _ _ _ (⟨924, 77⟩ : S166) )) (Reps.c2 (show Kd.M k166 _ _ _ (⟨925, 78⟩ : S166) [.int .i64 925, .int .i64 78] from (k166_mkM _ _ _ (⟨925, 78⟩ : S166) )) (Reps.c2 (show Kd.M k166 _ _ _ (⟨927, 79⟩ : S166) [.int .i64 927, .int .i64 79] from (k166_mkM _ _ _ (⟨927, 79⟩ : S166) )) (Reps.c2 (show Kd.M k166 _ _ _ (⟨929, 80⟩ : S166) [.int .i64 929, .int .i64 80] from (k166_mkM _ _ _ (⟨929, 80⟩ : S166) )) (Reps.c2 (show Kd.M k166 _ _ _ (⟨932, 84⟩ : S166) [.int .i64 932, .int .i64 84] from (k166_mkM _ _ _ (⟨932, 84⟩ : S166) )) (Reps.c2 (show Kd.M k166 _ _ _ (⟨933, 89⟩ : S166) [.int .i64 933, .int .i64 89] from (k166_mkM _ _ _ (⟨933, 89⟩ : S166) )) (Reps.c2 (show Kd.M k166 _ _ _ (⟨935, 88⟩ : S166) [.int .i64 935, .int .i64 88] from (k166_mkM _ _ _ (⟨935, 88⟩ : S166) )) (Reps.c2 (show Kd.M k166 _ _ _ (⟨957, 118⟩ : S166) [.int .i64 957, .int .i64 118] from (k166_mkM _ _ _ (⟨957, 118⟩ : S166) )) (Reps.c2 (show Kd.M k166 _ _ _ (⟨959, 111⟩ : S166) [.int .i64 959, .int .i64 111] from (k166_mkM _ _ _ (⟨959, 111⟩ : S166) )) (Reps.c2 (show Kd.M k166 _ _ _ (⟨961, 112⟩ : S166) [.int .i64 961, .int .i64 112] from (k166_mkM _ _ _ (⟨961, 112⟩ : S166) )) (Reps.c2 (show Kd.M k166 _ _ _ (⟨1029, 83⟩ : S166) [.int .i64 1029, .int .i64 83] from (k166_mkM _ _ _ (⟨1029, 83⟩ : S166) )) (Reps.c2 (show Kd.M k166 _ _ _ (⟨1030, 73⟩ : S166) [.int .i64 1030, .int .i64 73] from (k166_mkM _ _ _ (⟨1030, 73⟩ : S166) )) (Reps.c2 (show Kd.M k166 _ _ _ (⟨1032, 74⟩ : S166) [.int .i64 1032, .int .i64 74] from (k166_mkM _ _ _ (⟨1032, 74⟩ : S166) )) (Reps.c2 (show Kd.M k166 _ _ _ (⟨1040, 65⟩ : S166) [.int .i64 1040, .int .i64 65] from (k166_mkM _ _ _ (⟨1040, 65⟩ : S166) )) (Reps.c2 (show Kd.M k166 _ _ _ (⟨1042, 66⟩ : S166) [.int .i64 1042, .int .i64 66] from (k166_mkM _ _ _ (⟨1042, 66⟩ : S166) )) (Reps.c2 (show Kd.M k166 _ _ _ (⟨1045, 69⟩ : S166) [.int .i64 1045, .int .i64 69] from (k166_mkM _ _ _ (⟨1045, 69⟩ : S166) )) (Reps.c2 (show Kd.M k166 _ _ _ (⟨1050, 75⟩ : S166) [.int .i64 1050, .int .i64 75] from (k166_mkM _ _ _ (⟨1050, 75⟩ : S166) )) (Reps.c2 (show Kd.M k166 _ _ _ (⟨1052, 77⟩ : S166) [.int .i64 1052, .int .i64 77] from (k166_mkM _ _ _ (⟨1052, 77⟩ : S166) )) (Reps.c2 (show Kd.M k166 _ _ _ (⟨1053, 72⟩ : S166) [.int .i64 1053, .int .i64 72] from (k166_mkM _ _ _ (⟨1053, 72⟩ : S166) )) (Reps.c2 (show Kd.M k166 _ _ _ (⟨1054, 79⟩ : S166) [.int .i64 1054, .int .i64 79] from (k166_mkM _ _ _ (⟨1054, 79⟩ : S166) )) (Reps.c2 (show Kd.M k166 _ _ _ (⟨1056, 80⟩ : S166) [.int .i64 1056, .int .i64 80] from (k166_mkM _ _ _ (⟨1056, 80⟩ : S166) )) (Reps.c2 (show Kd.M k166 _ _ _ (⟨1057, 67⟩ : S166) [.int .i64 1057, .int .i64 67] from (k166_mkM _ _ _ (⟨1057, 67⟩ : S166) )) (Reps.c2 (show Kd.M k166 _ _ _ (⟨1058, 84⟩ : S166) [.int .i64 1058, .int .i64 84] from (k166_mkM _ _ _ (⟨1058, 84⟩ : S166) )) (Reps.c2 (show Kd.M k166 _ _ _ (⟨1061, 88⟩ : S166) [.int .i64 1061, .int .i64 88] from (k166_mkM _ _ _ (⟨1061, 88⟩ : S166) )) (Reps.c2 (show Kd.M k166 _ _ _ (⟨1072, 97⟩ : S166) [.int .i64 1072, .int .i64 97] from (k166_mkM _ _ _ (⟨1072, 97⟩ : S166) )) (Reps.c2 (show Kd.M k166 _ _ _ (⟨1077, 101⟩ : S166) [.int .i64 1077, .int .i64 101] from (k166_mkM _ _ _ (⟨1077, 101⟩ : S166) )) (Reps.c2 (show Kd.M k166 _ _ _ (⟨1086, 111⟩ : S166) [.int .i64 1086, .int .i64 111] from (k166_mkM _ _ _ (⟨1086, 111⟩ : S166) )) (Reps.c2 (show Kd.M k166 _ _ _ (⟨1088, 112⟩ : S166) [.int .i64 1088, .int .i64 112] from (k166_mkM _ _ _ (⟨1088, 112⟩ : S166) )) (Reps.c2 (show Kd.M k166 _ _ _ (⟨1089, 99⟩ : S166) [.int .i64 1089, .int .i64 99] from (k166_mkM _ _ _ (⟨1089, 99⟩ : S166) )) (Reps.c2 (show Kd.M k166 _ _ _ (⟨1091, 121⟩ : S166) [.int .i64 1091, .int .i64 121] from (k166_mkM _ _ _ (⟨1091, 121⟩ : S166) )) (Reps.c2 (show Kd.M k166 _ _ _ (⟨1093, 120⟩ : S166) [.int .i64 1093, .int .i64 120] from (k166_mkM _ _ _ (⟨1093, 120⟩ : S166) )) (Reps.c2 (show Kd.M k166 _ _ _ (⟨1109, 115⟩ : S166) [.int .i64 1109, .int .i64 115] from (k166_mkM _ _ _ (⟨1109, 115⟩ : S166) )) (Reps.c2 (show Kd.M k166 _ _ _ (⟨1110, 105⟩ : S166) [.int .i64 1110, .int .i64 105] from (k166_mkM _ _ _ (⟨1110, 105⟩ : S166) )) (Reps.c2 (show Kd.M k166 _ _ _ (⟨1112, 106⟩ : S166) [.int .i64 1112, .int .i64 106] from (k166_mkM _ _ _ (⟨1112, 106⟩ : S166) )) (Reps.c2 (show Kd.M k166 _ _ _ (⟨1281, 100⟩ : S166) [.int .i64 1281, .int .i64 100] from (k166_mkM _ _ _ (⟨1281, 100⟩ : S166) )) (Reps.c2 (show Kd.M k166 _ _ _ (⟨1307, 113⟩ : S166) [.int .i64 1307, .int .i64 113] from (k166_mkM _ _ _ (⟨1307, 113⟩ : S166) )) (Reps.c2 (show Kd.M k166 _ _ _ (⟨1309, 119⟩ : S166) [.int .i64 1309, .int .i64 119] from (k166_mkM _ _ _ (⟨1309, 119⟩ : S166) )) (Reps.c2 (show Kd.M k166 _ _ _ (⟨894, 59⟩ : S166) [.int .i64 894, .int .i64 59] from (k166_mkM _ _ _ (⟨894, 59⟩ : S166) )) (Reps.c2 (show Kd.M k166 _ _ _ (⟨8208, 45⟩ : S166) [.int .i64 8208, .int .i64 45] from (k166_mkM _ _ _ (⟨8208, 45⟩ : S166) )) (Reps.c2 (show Kd.M k166 _ _ _ (⟨8722, 45⟩ : S166) [.int .i64 8722, .int .i64 45] from (k166_mkM _ _ _ (⟨8722, 45⟩ : S166) )) (Reps.c2 (show Kd.M k166 _ _ _ (⟨8260, 47⟩ : S166) [.int .i64 8260, .int .i64 47] from (k166_mkM _ _ _ (⟨8260, 47⟩ : S166) )) (Reps.c2 (show Kd.M k166 _ _ _ (⟨8725, 47⟩ : S166) [.int .i64 8725, .int .i64 47] from (k166_mkM _ _ _ (⟨8725, 47⟩ : S166) )) (Reps.c2 (show Kd.M k166 _ _ _ (⟨8228, 46⟩ : S166) [.int .i64 8228, .int .i64 46] from (k166_mkM _ _ _ (⟨8228, 46⟩ : S166) )) (Reps.c2 (show Kd.M k166 _ _ _ (⟨8218, 44⟩ : S166) [.int .i64 8218, .int .i64 44] from (k166_mkM _ _ _ (⟨8218, 44⟩ : S166) )) (Reps.none _ _))))))))))))))))))))))))))))))))))))))))))))))))))))); intro v102 w1 ho2 hb hg_ hnew_; clear hg_ hnew_; (first | rw [← Ny101.out] at ho2 | (simp only [Int.reduceToNat] at ho2; rw [← Ny101.out] at ho2)); have HO103 := a0 (Kd.R_lower ho2 (below_size HB.out)); replace HB := a0 (below_step HB.out hb); clear hb ho2))
 go_ret
 exact ⟨_, by first | rfl | (simp [errW_none, errW_some] <;> rfl) | (simp [*, errW_none, errW_some] <;> rfl), by exact HO103.out, by repeat (first | (with_reducible first | exact HB.out | apply below_alloc | apply pw_below_drewN | apply below_drew1) | exact HB.out)⟩

end Go.Proofs.Ytemoocoedibbpab.X

namespace Go.Proofs.Ytemoocoedibbpab.X
open Go.RowKit Go.Proofs.YtemoocoedibbpabW.PrintWords Go.Proofs.YtemoocoedibbpabW.PrintLast Go.Proofs.YtemoocoedibbpabW.PrintMore
attribute [local go_sem] max2_int min2_int max_two min_two max_three min_three max_four min_four
set_option linter.unusedVariables false
set_option linter.unusedSimpArgs false

/-! ### IndexFunc_look: function 168 -/
def enc_look (x : S166) : Value := .agg #[.int .i64 x.f0, .int .i64 x.f1]
set_option maxHeartbeats 4000000 in
theorem IndexFunc_look.calls (p : S166 → Bool) (g : Nat) (lb : Array Value) (eg : ∀ args w, (callFunc g args).run Try.prog w = .ok (.enter g args) w) (A0 : Option Addr) (c0 : Nat) (l0 : List S166) (w : World) (hr0 : Kd.C k166 w A0 l0.length l0) (hn : l0.length ≤ 9223372036854775807)
    (hp : PredFor g lb enc_look p w) :
    Calls Try.prog 168 #[.slice A0 l0.length c0, .func (.func g) #[] lb] w fun e w' => e = .returned (.int .i64 (idxP p l0)) ∧ Below w.heap.size w w' := by
  have HR := Aside0.mk hr0
  have HP := Aside0.mk hp
  clear hr0 hp
  have hu := Try.underlying166
  go_enter Try.func168, Try.ntmps168
  go_wp2
  go_loopg [5, 8] l0.length (fun gg _ s8 wr => ∃ kk : Nat, kk ≤ l0.length ∧ l0.length - kk ≤ gg ∧ s8 = .int .i64 kk ∧ Aside0 (Below w.heap.size w wr) ∧ Aside0 (∀ j, (hj : j < l0.length) → j < kk → p l0[j] = false))
  case atStart => exact ⟨0, Nat.zero_le _, by omega, rfl, ⟨Below.refl _ w⟩, ⟨fun j _ hj => absurd hj (Nat.not_lt_zero _)⟩⟩
  case round =>
    obtain ⟨kk, hkk, hg, rfl, BW, A⟩ := hrel
    by_cases hlt : kk < l0.length
    · have hlt1 : decide ((kk : Int) < (l0.length : Int)) = true := decide_eq_true (by omega)
      have hlt2 : decide (kk < l0.length) = true := decide_eq_true hlt
      obtain ⟨ad, e, h0, h1⟩ := at_T166 (Kd.C_below HR.out BW.out) (kk : Int) (by omega) (by omega)
      cases e
      have ex : rd_T166 l0 (kk : Int) = l0[kk] := by simp [rd_T166, List.getD, hlt]
      rw [ex] at h0 h1
      simp only [Int.toNat_natCast] at h0 h1
      have hcall := HP.out wr l0[kk] BW.out
      generalize hy : l0[kk] = y at h0 h1 hcall
      have B := Aside0.mk hy
      clear hy ex
      cases hq : p y with
      | true =>
        rw [hq] at hcall
        have HQ := Aside0.mk hq
        clear hq
        unfold enc_look at hcall
        go_wp2_with ((with_reducible refine hcall.mono ?_); rintro e w' ⟨rfl, hb'⟩)
        go_ret
        refine ⟨?_, hb'⟩
        rw [idxP_hit p l0 kk hlt (by rw [B.out]; exact HQ.out) (fun j hj => A.out j (by omega) hj)]
        rfl
      | false =>
        rw [hq] at hcall
        have HQ := Aside0.mk hq
        clear hq
        unfold enc_look at hcall
        go_wp2_with ((with_reducible refine hcall.mono ?_); rintro e w' ⟨rfl, hb'⟩)
        go_roundg (l0.length - (kk + 1))
        case measure => omega
        case rel =>
          refine ⟨kk + 1, by omega, by omega, by go_num, ⟨hb'⟩, ⟨fun j hj1 hj => ?_⟩⟩
          by_cases e : j = kk
          · subst e
            rw [B.out]; exact HQ.out
          · exact A.out j hj1 (by omega)
    · have hlt1 : decide ((kk : Int) < (l0.length : Int)) = false := decide_eq_false (by omega)
      have hlt2 : decide (kk < l0.length) = false := decide_eq_false hlt
      go_wp2
      go_ret
      refine ⟨?_, BW.out⟩
      rw [idxP_miss p l0 (fun j hj => A.out j hj (by omega))]
      rfl

end Go.Proofs.Ytemoocoedibbpab.X

namespace Go.Proofs.Ytemoocoedibbpab.X
open Go.RowKit Go.Proofs.YtemoocoedibbpabW.PrintWords Go.Proofs.YtemoocoedibbpabW.PrintLast Go.Proofs.YtemoocoedibbpabW.PrintMore
attribute [local go_sem] max2_int min2_int max_two min_two max_three min_three max_four min_four
set_option linter.unusedVariables false
set_option linter.unusedSimpArgs false

/-! ### class_Skeleton: function 150 -/
def lookP (v : Int) (s : S166) : Bool := s.f0 == v
def looksL : List S166 := (class_looks.f).getD []
def class_Skeleton.f (a0 : Int) : Option Int := some (if idxP (lookP a0) looksL < 0 then a0 else (rd_T166 looksL (idxP (lookP a0) looksL)).f1)
set_option maxHeartbeats 4000000 in
theorem class_Skeleton_1.calls (B : Nat) (v : Int) (x : S166) (W : World) (hB : B < W.heap.size) (hc : W.cell? ⟨B, 0, none⟩ = some (.int .i64 v)) :
    Calls Try.prog 169 #[enc_look x, .pointer (some ⟨B, 0, none⟩)] W fun e w' => e = .returned (.bool (lookP v x)) ∧ Below W.heap.size W w' := by
  unfold enc_look lookP
  obtain ⟨a, b⟩ := x
  dsimp only
  go_enter Try.func169, Try.ntmps169
  go_wp2
  go_ret
  exact ⟨rfl, (Below.refl _ _).alloc (Nat.le_refl _) _⟩
set_option maxHeartbeats 4000000 in
theorem class_Skeleton.calls (a0 : Int) (r : Int) (w : World) (h : class_Skeleton.f a0 = some r) :
    Calls Try.prog 150 #[.int .i64 a0] w fun e w' => e = .returned (.int .i64 r) ∧ Below w.heap.size w w' := by
  have hu := Try.underlying166
  have HL := Aside0.mk (class_looks.calls looksL (w.alloc (.cells #[.int .i64 a0] 3)) rfl)
  have hlen : looksL.length ≤ 9223372036854775807 := by decide +kernel
  have hE := (Option.some.inj h).symm
  clear h
  generalize looksL = l1 at HL hlen hE
  obtain ⟨hi0, hi1⟩ := idxP_ge (lookP a0) l1
  have HX := Aside0.mk (fun A c W hr hp => IndexFunc_look.calls (lookP a0) 169 #[.pointer (some ⟨w.heap.size, 0, none⟩)] (enters_fn Try.func169 (by kernel_rfl) rfl) A c l1 W hr hlen hp)
  generalize idxP (lookP a0) l1 = i at hi0 hi1 hE HX
  have HP := Aside0.mk (fun (W0 : World) (h0 : Below w.heap.size w W0) (hc : W0.cell? ⟨w.heap.size, 0, none⟩ = some (.int .i64 a0)) => (fun W x hb =>
    (class_Skeleton_1.calls w.heap.size a0 x W (by have := World.block_lt_of_cell? W0 _ hc; have := hb.size; simp at *; omega) ((hb.cell (p := ⟨w.heap.size, 0, none⟩) (World.block_lt_of_cell? W0 _ hc)).trans hc)).mono fun e w' ⟨he, hb'⟩ => ⟨he, below_step hb hb'⟩ : PredFor 169 #[.pointer (some ⟨w.heap.size, 0, none⟩)] enc_look (lookP a0) W0))
  have hE2 : r = (bif decide (i < 0) then a0 else (rd_T166 l1 i).f1) := by rw [hE]; by_cases h : i < 0 <;> simp [h]
  clear hE
  generalize e1 : decide (i < 0) = b at hE2
  cases b
  all_goals
    simp only [cond_true, cond_false] at hE2
    have HE := Aside0.mk hE2
    clear hE2
    go_enter Try.func150, Try.ntmps150
    go_wp2_with fail
    refine HL.out.mono ?_
    rintro e w1 ⟨v0, rfl, hR, hb⟩
    obtain ⟨A, c, rfl, hlc, hC⟩ := Kd.R_reads hR
    clear hR
    have HC := Aside0.mk hC
    clear hC
    have h0 := below_step (below_alloc (Below.refl w.heap.size w) (.cells #[.int .i64 a0] 3)) hb
    have hc : w1.cell? ⟨w.heap.size, 0, none⟩ = some (.int .i64 a0) := (hb.cell (p := ⟨w.heap.size, 0, none⟩) (by simp)).trans (by simp)
    go_wp2_with fail
    refine (HX.out A c w1 HC.out (HP.out w1 h0 hc)).mono ?_
    rintro e w2 ⟨rfl, hb2⟩
    have hc2 : w2.cell? ⟨w.heap.size, 0, none⟩ = some (.int .i64 a0) := (hb2.cell (p := ⟨w.heap.size, 0, none⟩) (World.block_lt_of_cell? w1 _ hc)).trans hc
  · have hi : ¬ i < 0 := of_decide_eq_false e1
    obtain ⟨ad, e, k0, k1⟩ := at_T166 (Kd.C_below HC.out hb2) i (by omega) (by omega)
    cases e
    go_wp2
    go_ret
    exact ⟨by rw [HE.out]; rfl, below_step h0 hb2⟩
  · go_wp2
    go_ret
    exact ⟨by rw [HE.out]; rfl, below_step h0 hb2⟩

end Go.Proofs.Ytemoocoedibbpab.X

namespace Go.Proofs.Ytemoocoedibbpab.X
open Go.RowKit Go.Proofs.YtemoocoedibbpabW.PrintWords Go.Proofs.YtemoocoedibbpabW.PrintLast Go.Proofs.YtemoocoedibbpabW.PrintMore
attribute [local go_sem] max2_int min2_int max_two min_two max_three min_three max_four min_four
set_option linter.unusedVariables false
set_option linter.unusedSimpArgs false

/-! ### class_wides: function 151 -/
def class_wides.f  : Option ((List (S160))) := some (([(⟨4352, 4447, 2⟩ : S160), (⟨8986, 8987, 2⟩ : S160), (⟨11904, 12287, 2⟩ : S160), (⟨12289, 12350, 2⟩ : S160), (⟨12353, 13311, 2⟩ : S160), (⟨13312, 19903, 2⟩ : S160), (⟨19968, 42191, 2⟩ : S160), (⟨43360, 43391, 2⟩ : S160), (⟨44032, 55203, 2⟩ : S160), (⟨63744, 64255, 2⟩ : S160), (⟨65072, 65135, 2⟩ : S160), (⟨65280, 65376, 2⟩ : S160), (⟨65504, 65510, 2⟩ : S160), (⟨127744, 128591, 2⟩ : S160), (⟨128640, 128767, 2⟩ : S160), (⟨129280, 129535, 2⟩ : S160), (⟨131072, 262141, 2⟩ : S160)] : List (S160)))
set_option maxHeartbeats 8000000 in
set_option maxRecDepth 100000 in
theorem class_wides.calls  (r : List (S160)) (w : World) (h : class_wides.f  = some r) :
  Calls Try.prog 151 #[] w fun e w' => ∃ v0_ : Value, e = .returned (v0_) ∧ Kd.R k160 160 w' w.heap.size (fun _ => True) v0_ r ∧ Below w.heap.size w w' := by
 have hu160 := Try.underlying160
 have HB := Aside0.mk (Below.refl w.heap.size w)
 have H : (some (([(⟨4352, 4447, 2⟩ : S160), (⟨8986, 8987, 2⟩ : S160), (⟨11904, 12287, 2⟩ : S160), (⟨12289, 12350, 2⟩ : S160), (⟨12353, 13311, 2⟩ : S160), (⟨13312, 19903, 2⟩ : S160), (⟨19968, 42191, 2⟩ : S160), (⟨43360, 43391, 2⟩ : S160), (⟨44032, 55203, 2⟩ : S160), (⟨63744, 64255, 2⟩ : S160), (⟨65072, 65135, 2⟩ : S160), (⟨65280, 65376, 2⟩ : S160), (⟨65504, 65510, 2⟩ : S160), (⟨127744, 128591, 2⟩ : S160), (⟨128640, 128767, 2⟩ : S160), (⟨129280, 129535, 2⟩ : S160), (⟨131072, 262141, 2⟩ : S160)] : List (S160)))) = some r := h
 clear h
 obtain ⟨y101, hy101⟩ : ∃ y_ : List (S160), y_ = (([(⟨4352, 4447, 2⟩ : S160), (⟨8986, 8987, 2⟩ : S160), (⟨11904, 12287, 2⟩ : S160), (⟨12289, 12350, 2⟩ : S160), (⟨12353, 13311, 2⟩ : S160), (⟨13312, 19903, 2⟩ : S160), (⟨19968, 42191, 2⟩ : S160), (⟨43360, 43391, 2⟩ : S160), (⟨44032, 55203, 2⟩ : S160), (⟨63744, 64255, 2⟩ : S160), (⟨65072, 65135, 2⟩ : S160), (⟨65280, 65376, 2⟩ : S160), (⟨65504, 65510, 2⟩ : S160), (⟨127744, 128591, 2⟩ : S160), (⟨128640, 128767, 2⟩ : S160), (⟨129280, 129535, 2⟩ : S160), (⟨131072, 262141, 2⟩ : S160)] : List (S160))) := ⟨_, rfl⟩
 replace H : (some y101) = some r := by first | (rw [hy101]; with_reducible exact H) | (have H2_ := (Option.bind_some _ _).symm.trans H; rw [hy101]; with_reducible exact H2_) | (have H2_ := (Option.bind_some _ _).symm.trans H; with_reducible exact H2_) | with_reducible exact H | (rw [hy101]; exact H) | exact H
 have Ny101 := Aside0.mk hy101
 clear hy101
 obtain rfl := Option.some.inj H
 go_enter Try.func151, Try.ntmps151
 go_wp2_with (first | ((with_reducible refine gate_dst (N := 18) rfl ?_); refine Kd.R_lit k160 _ 160 ?hg (N := 18) ?hd (xs := ([(⟨4352, 4447, 2⟩ : S160), (⟨8986, 8987, 2⟩ : S160), (⟨11904, 12287, 2⟩ : S160), (⟨12289, 12350, 2⟩ : S160), (⟨12353, 13311, 2⟩ : S160), (⟨13312, 19903, 2⟩ : S160), (⟨19968, 42191, 2⟩ : S160), (⟨43360, 43391, 2⟩ : S160), (⟨44032, 55203, 2⟩ : S160), (⟨63744, 64255, 2⟩ : S160), (⟨65072, 65135, 2⟩ : S160), (⟨65280, 65376, 2⟩ : S160), (⟨65504, 65510, 2⟩ : S160), (⟨127744, 128591, 2⟩ : S160), (⟨128640, 128767, 2⟩ : S160), (⟨129280, 129535, 2⟩ : S160), (⟨131072, 262141, 2⟩ : S160)] : List (S160))) (inner := [.int .i64 4352, .int .i64 4447, .int .i64 2, .int .i64 8986, .int .i64 8987, .int .i64 2, .int .i64 11904, .int .i64 12287, .int .i64 2, .int .i64 12289, .int .i64 12350, .int .i64 2, .int .i64 12353, .int .i64 13311, .int .i64 2, .int .i64 13312, .int .i64 19903, .int .i64 2, .int .i64 19968, .int .i64 42191, .int .i64 2, .int .i64 43360, .int .i64 43391, .int .i64 2, .int .i64 44032, .int .i64 55203, .int .i64 2, .int .i64 63744, .int .i64 64255, .int .i64 2, .int .i64 65072, .int .i64 65135, .int .i64 2, .int .i64 65280, .int .i64 65376, .int .i64 2, .int .i64 65504, .int .i64 65510, .int .i64 2, .int .i64 127744, .int .i64 128591, .int .i64 2, .int .i64 128640, .int .i64 128767, .int .i64 2, .int .i64 129280, .int .i64 129535, .int .i64 2, .int .i64 131072, .int .i64 262141, .int .i64 2]) (ok := fun _ => True) (okp := fun _ => True) ?hr ?hp (fun _ hk => hk) trivial (Below.refl _ _) (Nat.le_refl _) (by simp) ?_; (case hd => rfl); (case hg => rfl); (case hr => first | (go_simp; done) | (go_simp; rfl)); (case hp => exact (Reps.c3 (show Kd.M k160 _ _ _ (⟨4352, 4447, 2⟩ : S160) [.int .i64 4352, .int .i64 4447, .int .i64 2] from (k160_mkM _ _ _ (⟨4352, 4447, 2⟩ : S160) )) (Reps.c3 (show Kd.M k160 _ _ _ (⟨8986, 8987, 2⟩ : S160) [.int .i64 8986, .int .i64 8987, .int .i64 2] from (k160_mkM _ _ _ (⟨8986, 8987, 2⟩ : S160) )) (Reps.c3 (show Kd.M k160 _ _ _ (⟨11904, 12287, 2⟩ : S160) [.int .i64 11904, .int .i64 12287, .int .i64 2] from (k160_mkM _ _ _ (⟨11904, 12287, 2⟩ : S160) )) (Reps.c3 (show Kd.M k160 _ _ _ (⟨12289, 12350, 2⟩ : S160) [.int .i64 12289, .int .i64 12350, .int .i64 2] from (k160_mkM _ _ _ (⟨12289, 12350, 2⟩ : S160) )) (Reps.c3 (show Kd.M k160 _ _ _ (⟨12353, 13311, 2⟩ : S160) [.int .i64 12353, .int .i64 13311, .int .i64 2] from (k160_mkM _ _ _ (⟨12353, 13311, 2⟩ : S160) )) (Reps.c3 (show Kd.M k160 _ _ _ (⟨13312, 19903, 2⟩ : S160) [.int .i64 13312, .int .i64 19903, .int .i64 2] from (k160_mkM _ _ _ (⟨13312, 19903, 2⟩ : S160) )) (Reps.c3 (show Kd.M k160 _ _ _ (⟨19968, 42191, 2⟩ : S160) [.int .i64 19968, .int .i64 42191, .int .i64 2] from (k160_mkM _ _ _ (⟨19968, 42191, 2⟩ : S160) )) (Reps.c3 (show Kd.M k160 _ _ _ (⟨43360, 43391, 2⟩ : S160) [.int .i64 43360, .int .i64 43391, .int .i64 2] from (k160_mkM _ _ _ (⟨43360, 43391, 2⟩ : S160) )) (Reps.c3 (show Kd.M k160 _ _ _ (⟨44032, 55203, 2⟩ : S160) [.int .i64 44032, .int .i64 55203, .int .i64 2] from (k160_mkM _ _ _ (⟨44032, 55203, 2⟩ : S160) )) (Reps.c3 (show Kd.M k160 _ _ _ (⟨63744, 64255, 2⟩ : S160) [.int .i64 63744, .int .i64 64255, .int .i64 2] from (k160_mkM _ _ _ (⟨63744, 64255, 2⟩ : S160) )) (Reps.c3 (show Kd.M k160 _ _ _ (⟨65072, 65135, 2⟩ : S160) [.int .i64 65072, .int .i64 65135, .int .i64 2] from (k160_mkM _ _ _ (⟨65072, 65135, 2⟩ : S160) )) (Reps.c3 (show Kd.M k160 _ _ _ (⟨65280, 65376, 2⟩ : S160) [.int .i64 65280, .int .i64 65376, .int .i64 2] from (k160_mkM _ _ _ (⟨65280, 65376, 2⟩ : S160) )) (Reps.c3 (show Kd.M k160 _ _ _ (⟨65504, 65510, 2⟩ : S160) [.int .i64 65504, .int .i64 65510, .int .i64 2] from (k160_mkM _ _ _ (⟨65504, 65510, 2⟩ : S160) )) (Reps.c3 (show Kd.M k160 _ _ _ (⟨127744, 128591, 2⟩ : S160) [.int .i64 127744, .int .i64 128591, .int .i64 2] from (k160_mkM _ _ _ (⟨127744, 128591, 2⟩ : S160) )) (Reps.c3 (show Kd.M k160 _ _ _ (⟨128640, 128767, 2⟩ : S160) [.int .i64 128640, .int .i64 128767, .int .i64 2] from (k160_mkM _ _ _ (⟨128640, 128767, 2⟩ : S160) )) (Reps.c3 (show Kd.M k160 _ _ _ (⟨129280, 129535, 2⟩ : S160) [.int .i64 129280, .int .i64 129535, .int .i64 2] from (k160_mkM _ _ _ (⟨129280, 129535, 2⟩ : S160) )) (Reps.c3 (show Kd.M k160 _ _ _ (⟨131072, 262141, 2⟩ : S160) [.int .i64 131072, .int .i64 262141, .int .i64 2] from (k160_mkM _ _ _ (⟨131072, 262141, 2⟩ : S160) )) (Reps.none _ _))))))))))))))))))); intro v102 w1 ho2 hb hg_ hnew_; clear hg_ hnew_; (first | rw [← Ny101.out] at ho2 | (simp only [Int.reduceToNat] at ho2; rw [← Ny101.out] at ho2)); have HO103 := a0 (Kd.R_lower ho2 (below_size HB.out)); replace HB := a0 (below_step HB.out hb); clear hb ho2))
 go_ret
 exact ⟨_, by first | rfl | (simp [errW_none, errW_some] <;> rfl) | (simp [*, errW_none, errW_some] <;> rfl), by exact HO103.out, by repeat (first | (with_reducible first | exact HB.out | apply below_alloc | apply pw_below_drewN | apply below_drew1) | exact HB.out)⟩

end Go.Proofs.Ytemoocoedibbpab.X

namespace Go.Proofs.Ytemoocoedibbpab.X
open Go.RowKit Go.Proofs.YtemoocoedibbpabW.PrintWords Go.Proofs.YtemoocoedibbpabW.PrintLast Go.Proofs.YtemoocoedibbpabW.PrintMore
attribute [local go_sem] max2_int min2_int max_two min_two max_three min_three max_four min_four
set_option linter.unusedVariables false
set_option linter.unusedSimpArgs false

/-! ### class_Of: function 111 -/
def class_Of.j0 : Nat → Int → Option (Int)
 | 0, _ => none
 | k + 1, x0 => (class_spans.f).bind fun t102 => ((class_in.f x0 t102).bind fun t105 => (if t105 = 0 then ((class_Skeleton.f x0).bind fun t106 => (if t106 = x0 then ((class_wides.f).bind fun t107 => ((class_in.f x0 t107).bind fun t110 => (if t110 = 0 then (some 1) else (some t110)))) else (some 3))) else (some t105)))
def class_Of.f (k : Nat) (a0 : Int) : Option (Int) := (utf_Right.f a0).bind fun t101 => (if t101 = true then (if a0 > 1114111 then (some 12) else (if a0 > 31 then (if a0 < 127 then (some 1) else (class_Of.j0 k a0)) else (class_Of.j0 k a0))) else (some 0))
theorem class_Of.mono_l : ∀ k, (∀ y0, LeO (class_Of.j0 k y0) (class_Of.j0 (k + 1) y0))
 | 0 => fun _ r h => by simp [class_Of.j0] at h
 | k + 1 => by
  have ih0 := class_Of.mono_l k
  ·intro y0
   unfold class_Of.j0
   repeat' first
   | (with_reducible exact ih0 _)
   | (with_reducible exact LeO.refl _)
   | (with_reducible exact LeO.none _)
   | (with_reducible refine LeO.ite ?_ ?_)
   | (with_reducible refine LeO.bind ?_ (fun _ => ?_))
   | exact ih0 _
   | exact LeO.none _
   | refine LeO.ite ?_ ?_
   | refine LeO.bind ?_ (fun _ => ?_)
theorem class_Of.mono : ∀ a0 k, LeO (class_Of.f k a0) (class_Of.f (k + 1) a0) := by
 intro a0 k
 have ih0 := class_Of.mono_l k
 unfold class_Of.f
 repeat' first
   | (with_reducible exact ih0 _)
   | (with_reducible exact LeO.refl _)
   | (with_reducible exact LeO.none _)
   | (with_reducible refine LeO.ite ?_ ?_)
   | (with_reducible refine LeO.bind ?_ (fun _ => ?_))
   | exact ih0 _
   | exact LeO.none _
   | refine LeO.ite ?_ ?_
   | refine LeO.bind ?_ (fun _ => ?_)
set_option maxHeartbeats 8000000 in
set_option maxRecDepth 100000 in
theorem class_Of.calls (k : Nat) (a0 : Int) (r : Int) (w : World) (h : class_Of.f k a0 = some r) :
  Calls Try.prog 111 #[.int .i64 a0] w fun e w' => e = .returned (.int .i64 r) ∧ Below w.heap.size w w' := by
 have HB := Aside0.mk (Below.refl w.heap.size w)
 have H : ((utf_Right.f a0).bind fun t101 => (if t101 = true then (if a0 > 1114111 then (some 12) else (if a0 > 31 then (if a0 < 127 then (some 1) else (class_Of.j0 k a0)) else (class_Of.j0 k a0))) else (some 0))) = some r := h
 clear h
 have HC2 := Aside0.mk H
 clear H
 go_enter Try.func111, Try.ntmps111
 go_upto_block 0 with (fail)
 go_cut [] (fun wc => ∃ (kq : Nat), Aside0 (class_Of.j0 kq a0 = some r) ∧ Aside0 (kq ≤ k) ∧ Aside0 (Below w.heap.size w wc))
 case first =>
  have H := HC2.out
  clear HC2
  replace H := Option.bind_eq_some_iff.mp H
  obtain ⟨t101, A30, H⟩ := H
  replace H : (if t101 = true then (if a0 > 1114111 then (some 12) else (if a0 > 31 then (if a0 < 127 then (some 1) else (class_Of.j0 k a0)) else (class_Of.j0 k a0))) else (some 0)) = some r := H
  have A3 := Aside0.mk A30
  clear A30
  by_cases c4 : t101 = true
  ·subst c4
   have H1 : (if a0 > 1114111 then (some 12) else (if a0 > 31 then (if a0 < 127 then (some 1) else (class_Of.j0 k a0)) else (class_Of.j0 k a0))) = some r := by rw [if_pos rfl] at H; exact H
   clear H
   have H := H1
   clear H1
   by_cases c5 : a0 > 1114111
   ·rw [if_pos c5] at H
    have c5b0 : decide (1114111 < a0) = true := decide_eq_true c5
    clear c5
    (first | rw [c5b0] | (simp only [i64_w, i32_w]; rw [c5b0]) | skip)
    obtain rfl := Option.some.inj H
    go_wp2_with (first | ((with_reducible refine gate_callee (f := 143) rfl ?_); refine gL (some 7) Try.func143 (by kernel_rfl) #[.int .i64 a0] rfl rfl rfl rfl rfl ?_; (with_reducible refine (utf_Right.calls a0 true _ A3.out).mono ?_); rintro e w' ⟨rfl, ⟨nd, rfl⟩⟩; refine ⟨_, rfl, ?_⟩))
    go_ret
    exact ⟨by first | rfl | (simp [errW_none, errW_some] <;> rfl) | (simp [*, errW_none, errW_some] <;> rfl), by repeat (first | exact HB.out | apply below_alloc | apply pw_below_drewN | apply below_drew1)⟩
   ·rw [if_neg c5] at H
    have c5b0 : decide (1114111 < a0) = false := decide_eq_false c5
    clear c5
    (first | rw [c5b0] | (simp only [i64_w, i32_w]; rw [c5b0]) | skip)
    by_cases c6 : a0 > 31
    ·rw [if_pos c6] at H
     have c6b0 : decide (31 < a0) = true := decide_eq_true c6
     clear c6
     by_cases c7 : a0 < 127
     ·rw [if_pos c7] at H
      have c7b0 : decide (a0 < 127) = true := decide_eq_true c7
      clear c7
      obtain rfl := Option.some.inj H
      go_wp2_with (first | ((with_reducible refine gate_callee (f := 143) rfl ?_); refine gL (some 7) Try.func143 (by kernel_rfl) #[.int .i64 a0] rfl rfl rfl rfl rfl ?_; (with_reducible refine (utf_Right.calls a0 true _ A3.out).mono ?_); rintro e w' ⟨rfl, ⟨nd, rfl⟩⟩; refine ⟨_, rfl, ?_⟩))
      go_ret
      exact ⟨by first | rfl | (simp [errW_none, errW_some] <;> rfl) | (simp [*, errW_none, errW_some] <;> rfl), by repeat (first | exact HB.out | apply below_alloc | apply pw_below_drewN | apply below_drew1)⟩
     ·rw [if_neg c7] at H
      have c7b0 : decide (a0 < 127) = false := decide_eq_false c7
      clear c7
      have H' := Aside0.mk H
      clear H
      go_wp2_with (first | ((with_reducible refine gate_callee (f := 143) rfl ?_); refine gL (some 7) Try.func143 (by kernel_rfl) #[.int .i64 a0] rfl rfl rfl rfl rfl ?_; (with_reducible refine (utf_Right.calls a0 true _ A3.out).mono ?_); rintro e w' ⟨rfl, ⟨nd, rfl⟩⟩; refine ⟨_, rfl, ?_⟩))
      go_meet
      case rel => exact ⟨_, H', ⟨by first | omega | exact Nat.le_refl _⟩, ⟨by repeat (first | exact HB.out | apply below_alloc | apply pw_below_drewN | apply below_drew1)⟩⟩
    ·rw [if_neg c6] at H
     have c6b0 : decide (31 < a0) = false := decide_eq_false c6
     clear c6
     have H' := Aside0.mk H
     clear H
     go_wp2_with (first | ((with_reducible refine gate_callee (f := 143) rfl ?_); refine gL (some 7) Try.func143 (by kernel_rfl) #[.int .i64 a0] rfl rfl rfl rfl rfl ?_; (with_reducible refine (utf_Right.calls a0 true _ A3.out).mono ?_); rintro e w' ⟨rfl, ⟨nd, rfl⟩⟩; refine ⟨_, rfl, ?_⟩))
     go_meet
     case rel => exact ⟨_, H', ⟨by first | omega | exact Nat.le_refl _⟩, ⟨by repeat (first | exact HB.out | apply below_alloc | apply pw_below_drewN | apply below_drew1)⟩⟩
  ·replace c4 := Bool.eq_false_iff.mpr c4
   subst c4
   have H1 : (some 0) = some r := by rw [if_neg (show ¬ (false = true) by decide)] at H; exact H
   clear H
   have H := H1
   clear H1
   obtain rfl := Option.some.inj H
   go_wp2_with (first | ((with_reducible refine gate_callee (f := 143) rfl ?_); refine gL (some 7) Try.func143 (by kernel_rfl) #[.int .i64 a0] rfl rfl rfl rfl rfl ?_; (with_reducible refine (utf_Right.calls a0 false _ A3.out).mono ?_); rintro e w' ⟨rfl, ⟨nd, rfl⟩⟩; refine ⟨_, rfl, ?_⟩))
   go_ret
   exact ⟨by first | rfl | (simp [errW_none, errW_some] <;> rfl) | (simp [*, errW_none, errW_some] <;> rfl), by repeat (first | exact HB.out | apply below_alloc | apply pw_below_drewN | apply below_drew1)⟩
 case rest =>
  clear HC2
  try clear c1
  try clear p2
  try clear c4
  try clear c5
  try clear c5b0
  try clear c6
  try clear c6b0
  try clear c7
  try clear c7b0
  obtain ⟨kq, HA, HJ1, HB⟩ := hcut
  cases kq with
  | zero => exact absurd HA.out (by simp [class_Of.j0])
  | succ kj1 =>
   have H := HA.out
   clear HA
   simp only [class_Of.j0] at H
   replace H := Option.bind_eq_some_iff.mp H
   obtain ⟨t102, A80, H⟩ := H
   replace H : ((class_in.f a0 t102).bind fun t105 => (if t105 = 0 then ((class_Skeleton.f a0).bind fun t106 => (if t106 = a0 then ((class_wides.f).bind fun t107 => ((class_in.f a0 t107).bind fun t110 => (if t110 = 0 then (some 1) else (some t110)))) else (some 3))) else (some t105))) = some r := H
   have A8 := Aside0.mk A80
   clear A80
   replace H := Option.bind_eq_some_iff.mp H
   obtain ⟨t105, A90, H⟩ := H
   replace H : (if t105 = 0 then ((class_Skeleton.f a0).bind fun t106 => (if t106 = a0 then ((class_wides.f).bind fun t107 => ((class_in.f a0 t107).bind fun t110 => (if t110 = 0 then (some 1) else (some t110)))) else (some 3))) else (some t105)) = some r := H
   have A9 := Aside0.mk A90
   clear A90
   by_cases c10 : t105 = 0
   ·rw [if_pos c10] at H
    have c10b0 : (t105 == 0) = true := beq_iff_eq.mpr c10
    have c10b1 : (t105 != 0) = false := bne_eq_false_iff_eq.mpr c10
    clear c10
    replace H := Option.bind_eq_some_iff.mp H
    obtain ⟨t106, A110, H⟩ := H
    replace H : (if t106 = a0 then ((class_wides.f).bind fun t107 => ((class_in.f a0 t107).bind fun t110 => (if t110 = 0 then (some 1) else (some t110)))) else (some 3)) = some r := H
    have A11 := Aside0.mk A110
    clear A110
    by_cases c12 : t106 = a0
    ·rw [if_pos c12] at H
     have c12b0 : (t106 == a0) = true := beq_iff_eq.mpr c12
     have c12b1 : (t106 != a0) = false := bne_eq_false_iff_eq.mpr c12
     clear c12
     replace H := Option.bind_eq_some_iff.mp H
     obtain ⟨t107, A130, H⟩ := H
     replace H : ((class_in.f a0 t107).bind fun t110 => (if t110 = 0 then (some 1) else (some t110))) = some r := H
     have A13 := Aside0.mk A130
     clear A130
     replace H := Option.bind_eq_some_iff.mp H
     obtain ⟨t110, A140, H⟩ := H
     replace H : (if t110 = 0 then (some 1) else (some t110)) = some r := H
     have A14 := Aside0.mk A140
     clear A140
     by_cases c15 : t110 = 0
     ·rw [if_pos c15] at H
      have c15b0 : (t110 == 0) = true := beq_iff_eq.mpr c15
      have c15b1 : (t110 != 0) = false := bne_eq_false_iff_eq.mpr c15
      clear c15
      obtain rfl := Option.some.inj H
      go_wp2_with (first | ((with_reducible refine gate_callee (f := 149) rfl ?_); refine gL (some 20) Try.func149 (by kernel_rfl) #[] rfl rfl rfl rfl rfl ?_; (with_reducible refine (class_spans.calls  t102 _ A8.out).mono ?_); rintro e w16 ⟨v103, rfl, ho0, hb⟩; refine ⟨_, rfl, ?_⟩; have n0_ := Aside0.mk (Kd.R_lower ho0 (below_size (by repeat (first | exact HB.out | apply below_alloc | apply pw_below_drewN | apply below_drew1)))); have n1_ := Aside0.mk (below_step (by repeat (first | exact HB.out | apply below_alloc | apply pw_below_drewN | apply below_drew1)) hb); clear HB; have HO104 := n0_; have HB := n1_; clear n0_ n1_; (try clear hb); (try clear hb2); (try clear hk); (try clear hi); (try clear ho0); obtain ⟨Ao17, co17, eo17⟩ := Kd.R_slice HO104.out; subst eo17) | ((with_reducible refine gate_callee (f := 148) rfl ?_); refine gL (some 21) Try.func148 (by kernel_rfl) #[.int .i64 a0, .slice Ao17 t102.length co17] rfl rfl rfl rfl rfl ?_; (with_reducible refine (class_in.calls a0 _ _ t102 t105 _ ?side1 ?side2 A9.out).mono ?_); (case side1 => repeat (first | exact (Kd.R_reads' HO104.out).2.2 | (with_reducible refine Kd.C_alloc ?_ _) | (with_reducible refine Kd.C_drewN ?_ _) | (with_reducible refine Kd.C_drew ?_))); (case side2 => exact (Kd.R_reads' HO104.out).2.1); rintro e w18 ⟨rfl, hb⟩; refine ⟨_, rfl, ?_⟩; have n0_ := Aside0.mk (Kd.R_below HO104.out hb); have n1_ := Aside0.mk (below_step (by repeat (first | exact HB.out | apply below_alloc | apply pw_below_drewN | apply below_drew1)) hb); clear HO104; clear HB; have HO104 := n0_; have HB := n1_; clear n0_ n1_; (try clear hb); (try clear hb2); (try clear hk); (try clear hi)) | ((with_reducible refine gate_callee (f := 150) rfl ?_); refine gL (some 26) Try.func150 (by kernel_rfl) #[.int .i64 a0] rfl rfl rfl rfl rfl ?_; (with_reducible refine (class_Skeleton.calls a0 t106 _ A11.out).mono ?_); rintro e w19 ⟨rfl, hb⟩; refine ⟨_, rfl, ?_⟩; have n0_ := Aside0.mk (Kd.R_below HO104.out hb); have n1_ := Aside0.mk (below_step (by repeat (first | exact HB.out | apply below_alloc | apply pw_below_drewN | apply below_drew1)) hb); clear HO104; clear HB; have HO104 := n0_; have HB := n1_; clear n0_ n1_; (try clear hb); (try clear hb2); (try clear hk); (try clear hi)) | ((with_reducible refine gate_callee (f := 151) rfl ?_); refine gL (some 30) Try.func151 (by kernel_rfl) #[] rfl rfl rfl rfl rfl ?_; (with_reducible refine (class_wides.calls  t107 _ A13.out).mono ?_); rintro e w20 ⟨v108, rfl, ho0, hb⟩; refine ⟨_, rfl, ?_⟩; have n0_ := Aside0.mk (Kd.R_elder' HO104.out (Kd.R_base ho0) hb); have n1_ := Aside0.mk (Kd.R_lower (Kd.R_new' ho0 (Kd.R_lt HO104.out)) (below_size (by repeat (first | exact HB.out | apply below_alloc | apply pw_below_drewN | apply below_drew1)))); have n2_ := Aside0.mk (below_step (by repeat (first | exact HB.out | apply below_alloc | apply pw_below_drewN | apply below_drew1)) hb); clear HO104; clear HB; have HO104 := n0_; have HO109 := n1_; have HB := n2_; clear n0_ n1_ n2_; (try clear hb); (try clear hb2); (try clear hk); (try clear hi); (try clear ho0); obtain ⟨Ao21, co21, eo21⟩ := Kd.R_slice HO109.out; subst eo21) | ((with_reducible refine gate_callee (f := 148) rfl ?_); refine gL (some 31) Try.func148 (by kernel_rfl) #[.int .i64 a0, .slice Ao21 t107.length co21] rfl rfl rfl rfl rfl ?_; (with_reducible refine (class_in.calls a0 _ _ t107 t110 _ ?side1 ?side2 A14.out).mono ?_); (case side1 => repeat (first | exact (Kd.R_reads' HO109.out).2.2 | (with_reducible refine Kd.C_alloc ?_ _) | (with_reducible refine Kd.C_drewN ?_ _) | (with_reducible refine Kd.C_drew ?_))); (case side2 => exact (Kd.R_reads' HO109.out).2.1); rintro e w22 ⟨rfl, hb⟩; refine ⟨_, rfl, ?_⟩; have n0_ := Aside0.mk (Kd.R_below HO104.out hb); have n1_ := Aside0.mk (Kd.R_below HO109.out hb); have n2_ := Aside0.mk (below_step (by repeat (first | exact HB.out | apply below_alloc | apply pw_below_drewN | apply below_drew1)) hb); clear HO104; clear HO109; clear HB; have HO104 := n0_; have HO109 := n1_; have HB := n2_; clear n0_ n1_ n2_; (try clear hb); (try clear hb2); (try clear hk); (try clear hi)))
      go_ret
      exact ⟨by first | rfl | (simp [errW_none, errW_some] <;> rfl) | (simp [*, errW_none, errW_some] <;> rfl), by repeat (first | exact HB.out | apply below_alloc | apply pw_below_drewN | apply below_drew1)⟩
     ·rw [if_neg c15] at H
      have c15b0 : (t110 == 0) = false := beq_eq_false_iff_ne.mpr c15
      have c15b1 : (t110 != 0) = true := bne_iff_ne.mpr c15
      obtain rfl := Option.some.inj H
      go_wp2_with (first | ((with_reducible refine gate_callee (f := 149) rfl ?_); refine gL (some 20) Try.func149 (by kernel_rfl) #[] rfl rfl rfl rfl rfl ?_; (with_reducible refine (class_spans.calls  t102 _ A8.out).mono ?_); rintro e w23 ⟨v103, rfl, ho0, hb⟩; refine ⟨_, rfl, ?_⟩; have n0_ := Aside0.mk (Kd.R_lower ho0 (below_size (by repeat (first | exact HB.out | apply below_alloc | apply pw_below_drewN | apply below_drew1)))); have n1_ := Aside0.mk (below_step (by repeat (first | exact HB.out | apply below_alloc | apply pw_below_drewN | apply below_drew1)) hb); clear HB; have HO104 := n0_; have HB := n1_; clear n0_ n1_; (try clear hb); (try clear hb2); (try clear hk); (try clear hi); (try clear ho0); obtain ⟨Ao24, co24, eo24⟩ := Kd.R_slice HO104.out; subst eo24) | ((with_reducible refine gate_callee (f := 148) rfl ?_); refine gL (some 21) Try.func148 (by kernel_rfl) #[.int .i64 a0, .slice Ao24 t102.length co24] rfl rfl rfl rfl rfl ?_; (with_reducible refine (class_in.calls a0 _ _ t102 t105 _ ?side1 ?side2 A9.out).mono ?_); (case side1 => repeat (first | exact (Kd.R_reads' HO104.out).2.2 | (with_reducible refine Kd.C_alloc ?_ _) | (with_reducible refine Kd.C_drewN ?_ _) | (with_reducible refine Kd.C_drew ?_))); (case side2 => exact (Kd.R_reads' HO104.out).2.1); rintro e w25 ⟨rfl, hb⟩; refine ⟨_, rfl, ?_⟩; have n0_ := Aside0.mk (Kd.R_below HO104.out hb); have n1_ := Aside0.mk (below_step (by repeat (first | exact HB.out | apply below_alloc | apply pw_below_drewN | apply below_drew1)) hb); clear HO104; clear HB; have HO104 := n0_; have HB := n1_; clear n0_ n1_; (try clear hb); (try clear hb2); (try clear hk); (try clear hi)) | ((with_reducible refine gate_callee (f := 150) rfl ?_); refine gL (some 26) Try.func150 (by kernel_rfl) #[.int .i64 a0] rfl rfl rfl rfl rfl ?_; (with_reducible refine (class_Skeleton.calls a0 t106 _ A11.out).mono ?_); rintro e w26 ⟨rfl, hb⟩; refine ⟨_, rfl, ?_⟩; have n0_ := Aside0.mk (Kd.R_below HO104.out hb); have n1_ := Aside0.mk (below_step (by repeat (first | exact HB.out | apply below_alloc | apply pw_below_drewN | apply below_drew1)) hb); clear HO104; clear HB; have HO104 := n0_; have HB := n1_; clear n0_ n1_; (try clear hb); (try clear hb2); (try clear hk); (try clear hi)) | ((with_reducible refine gate_callee (f := 151) rfl ?_); refine gL (some 30) Try.func151 (by kernel_rfl) #[] rfl rfl rfl rfl rfl ?_; (with_reducible refine (class_wides.calls  t107 _ A13.out).mono ?_); rintro e w27 ⟨v108, rfl, ho0, hb⟩; refine ⟨_, rfl, ?_⟩; have n0_ := Aside0.mk (Kd.R_elder' HO104.out (Kd.R_base ho0) hb); have n1_ := Aside0.mk (Kd.R_lower (Kd.R_new' ho0 (Kd.R_lt HO104.out)) (below_size (by repeat (first | exact HB.out | apply below_alloc | apply pw_below_drewN | apply below_drew1)))); have n2_ := Aside0.mk (below_step (by repeat (first | exact HB.out | apply below_alloc | apply pw_below_drewN | apply below_drew1)) hb); clear HO104; clear HB; have HO104 := n0_; have HO109 := n1_; have HB := n2_; clear n0_ n1_ n2_; (try clear hb); (try clear hb2); (try clear hk); (try clear hi); (try clear ho0); obtain ⟨Ao28, co28, eo28⟩ := Kd.R_slice HO109.out; subst eo28) | ((with_reducible refine gate_callee (f := 148) rfl ?_); refine gL (some 31) Try.func148 (by kernel_rfl) #[.int .i64 a0, .slice Ao28 t107.length co28] rfl rfl rfl rfl rfl ?_; (with_reducible refine (class_in.calls a0 _ _ t107 t110 _ ?side1 ?side2 A14.out).mono ?_); (case side1 => repeat (first | exact (Kd.R_reads' HO109.out).2.2 | (with_reducible refine Kd.C_alloc ?_ _) | (with_reducible refine Kd.C_drewN ?_ _) | (with_reducible refine Kd.C_drew ?_))); (case side2 => exact (Kd.R_reads' HO109.out).2.1); rintro e w29 ⟨rfl, hb⟩; refine ⟨_, rfl, ?_⟩; have n0_ := Aside0.mk (Kd.R_below HO104.out hb); have n1_ := Aside0.mk (Kd.R_below HO109.out hb); have n2_ := Aside0.mk (below_step (by repeat (first | exact HB.out | apply below_alloc | apply pw_below_drewN | apply below_drew1)) hb); clear HO104; clear HO109; clear HB; have HO104 := n0_; have HO109 := n1_; have HB := n2_; clear n0_ n1_ n2_; (try clear hb); (try clear hb2); (try clear hk); (try clear hi)))
      go_ret
      exact ⟨by first | rfl | (simp [errW_none, errW_some] <;> rfl) | (simp [*, errW_none, errW_some] <;> rfl), by repeat (first | exact HB.out | apply below_alloc | apply pw_below_drewN | apply below_drew1)⟩
    ·rw [if_neg c12] at H
     have c12b0 : (t106 == a0) = false := beq_eq_false_iff_ne.mpr c12
     have c12b1 : (t106 != a0) = true := bne_iff_ne.mpr c12
     obtain rfl := Option.some.inj H
     go_wp2_with (first | ((with_reducible refine gate_callee (f := 149) rfl ?_); refine gL (some 20) Try.func149 (by kernel_rfl) #[] rfl rfl rfl rfl rfl ?_; (with_reducible refine (class_spans.calls  t102 _ A8.out).mono ?_); rintro e w30 ⟨v103, rfl, ho0, hb⟩; refine ⟨_, rfl, ?_⟩; have n0_ := Aside0.mk (Kd.R_lower ho0 (below_size (by repeat (first | exact HB.out | apply below_alloc | apply pw_below_drewN | apply below_drew1)))); have n1_ := Aside0.mk (below_step (by repeat (first | exact HB.out | apply below_alloc | apply pw_below_drewN | apply below_drew1)) hb); clear HB; have HO104 := n0_; have HB := n1_; clear n0_ n1_; (try clear hb); (try clear hb2); (try clear hk); (try clear hi); (try clear ho0); obtain ⟨Ao31, co31, eo31⟩ := Kd.R_slice HO104.out; subst eo31) | ((with_reducible refine gate_callee (f := 148) rfl ?_); refine gL (some 21) Try.func148 (by kernel_rfl) #[.int .i64 a0, .slice Ao31 t102.length co31] rfl rfl rfl rfl rfl ?_; (with_reducible refine (class_in.calls a0 _ _ t102 t105 _ ?side1 ?side2 A9.out).mono ?_); (case side1 => repeat (first | exact (Kd.R_reads' HO104.out).2.2 | (with_reducible refine Kd.C_alloc ?_ _) | (with_reducible refine Kd.C_drewN ?_ _) | (with_reducible refine Kd.C_drew ?_))); (case side2 => exact (Kd.R_reads' HO104.out).2.1); rintro e w32 ⟨rfl, hb⟩; refine ⟨_, rfl, ?_⟩; have n0_ := Aside0.mk (Kd.R_below HO104.out hb); have n1_ := Aside0.mk (below_step (by repeat (first | exact HB.out | apply below_alloc | apply pw_below_drewN | apply below_drew1)) hb); clear HO104; clear HB; have HO104 := n0_; have HB := n1_; clear n0_ n1_; (try clear hb); (try clear hb2); (try clear hk); (try clear hi)) | ((with_reducible refine gate_callee (f := 150) rfl ?_); refine gL (some 26) Try.func150 (by kernel_rfl) #[.int .i64 a0] rfl rfl rfl rfl rfl ?_; (with_reducible refine (class_Skeleton.calls a0 t106 _ A11.out).mono ?_); rintro e w33 ⟨rfl, hb⟩; refine ⟨_, rfl, ?_⟩; have n0_ := Aside0.mk (Kd.R_below HO104.out hb); have n1_ := Aside0.mk (below_step (by repeat (first | exact HB.out | apply below_alloc | apply pw_below_drewN | apply below_drew1)) hb); clear HO104; clear HB; have HO104 := n0_; have HB := n1_; clear n0_ n1_; (try clear hb); (try clear hb2); (try clear hk); (try clear hi)))
     go_ret
     exact ⟨by first | rfl | (simp [errW_none, errW_some] <;> rfl) | (simp [*, errW_none, errW_some] <;> rfl), by repeat (first | exact HB.out | apply below_alloc | apply pw_below_drewN | apply below_drew1)⟩
   ·rw [if_neg c10] at H
    have c10b0 : (t105 == 0) = false := beq_eq_false_iff_ne.mpr c10
    have c10b1 : (t105 != 0) = true := bne_iff_ne.mpr c10
    obtain rfl := Option.some.inj H
    go_wp2_with (first | ((with_reducible refine gate_callee (f := 149) rfl ?_); refine gL (some 20) Try.func149 (by kernel_rfl) #[] rfl rfl rfl rfl rfl ?_; (with_reducible refine (class_spans.calls  t102 _ A8.out).mono ?_); rintro e w34 ⟨v103, rfl, ho0, hb⟩; refine ⟨_, rfl, ?_⟩; have n0_ := Aside0.mk (Kd.R_lower ho0 (below_size (by repeat (first | exact HB.out | apply below_alloc | apply pw_below_drewN | apply below_drew1)))); have n1_ := Aside0.mk (below_step (by repeat (first | exact HB.out | apply below_alloc | apply pw_below_drewN | apply below_drew1)) hb); clear HB; have HO104 := n0_; have HB := n1_; clear n0_ n1_; (try clear hb); (try clear hb2); (try clear hk); (try clear hi); (try clear ho0); obtain ⟨Ao35, co35, eo35⟩ := Kd.R_slice HO104.out; subst eo35) | ((with_reducible refine gate_callee (f := 148) rfl ?_); refine gL (some 21) Try.func148 (by kernel_rfl) #[.int .i64 a0, .slice Ao35 t102.length co35] rfl rfl rfl rfl rfl ?_; (with_reducible refine (class_in.calls a0 _ _ t102 t105 _ ?side1 ?side2 A9.out).mono ?_); (case side1 => repeat (first | exact (Kd.R_reads' HO104.out).2.2 | (with_reducible refine Kd.C_alloc ?_ _) | (with_reducible refine Kd.C_drewN ?_ _) | (with_reducible refine Kd.C_drew ?_))); (case side2 => exact (Kd.R_reads' HO104.out).2.1); rintro e w36 ⟨rfl, hb⟩; refine ⟨_, rfl, ?_⟩; have n0_ := Aside0.mk (Kd.R_below HO104.out hb); have n1_ := Aside0.mk (below_step (by repeat (first | exact HB.out | apply below_alloc | apply pw_below_drewN | apply below_drew1)) hb); clear HO104; clear HB; have HO104 := n0_; have HB := n1_; clear n0_ n1_; (try clear hb); (try clear hb2); (try clear hk); (try clear hi)))
    go_ret
    exact ⟨by first | rfl | (simp [errW_none, errW_some] <;> rfl) | (simp [*, errW_none, errW_some] <;> rfl), by repeat (first | exact HB.out | apply below_alloc | apply pw_below_drewN | apply below_drew1)⟩

end Go.Proofs.Ytemoocoedibbpab.X

namespace Go.Proofs.Ytemoocoedibbpab.X
open Go.RowKit Go.Proofs.YtemoocoedibbpabW.PrintWords Go.Proofs.YtemoocoedibbpabW.PrintLast Go.Proofs.YtemoocoedibbpabW.PrintMore
attribute [local go_sem] max2_int min2_int max_two min_two max_three min_three max_four min_four
set_option linter.unusedVariables false
set_option linter.unusedSimpArgs false

/-! ### word_Kind: function 61 -/
def wkind (v c : Int) : Int := if v = 9 ∨ v = 10 ∨ v = 13 ∨ v = 32 ∨ c = 10 then 0 else if (97 ≤ v ∧ v ≤ 122) ∨ (65 ≤ v ∧ v ≤ 90) ∨ (48 ≤ v ∧ v ≤ 57) ∨ v = 95 ∨ (128 ≤ v ∧ 1 ≤ c ∧ c ≤ 3) then 1 else 2
def word_Kind.f (k : Nat) (a0 : Int) : Option Int := (class_Of.f k a0).bind fun c => some (wkind a0 c)
theorem word_Kind.mono : ∀ a0 k, LeO (word_Kind.f k a0) (word_Kind.f (k + 1) a0) := fun a k => LeO.bind (class_Of.mono _ _) (fun _ => LeO.refl _)
set_option maxHeartbeats 8000000 in
set_option maxRecDepth 100000 in
theorem word_Kind.calls (k : Nat) (a0 : Int) (r : Int) (w : World) (h : word_Kind.f k a0 = some r) :
  Calls Try.prog 61 #[.int .i64 a0] w fun e w' => e = .returned (.int .i64 r) ∧ Below w.heap.size w w' := by
 unfold word_Kind.f at h
 obtain ⟨c, h1, h⟩ := Option.bind_eq_some_iff.mp h
 have H1 := Aside0.mk h1
 obtain rfl := Option.some.inj h
 clear h1 h
 by_cases I : a0 = 9
 ·have e9 : (a0 == 9) = true := beq_iff_eq.mpr I
  rw [show wkind a0 c = 0 from by unfold wkind; (repeat' split) <;> first | rfl | omega]
  clear I
  go_enter Try.func61, Try.ntmps61
  go_wp2_with fail
  refine (class_Of.calls k a0 c _ H1.out).mono ?_
  rintro _ _ ⟨rfl, hb⟩
  go_wp2
  repeat (go_quiet (fail); try go_wp2)
  go_ret
  exact ⟨rfl, hb⟩
 have i_e9 := I
 have e9 : (a0 == 9) = false := beq_eq_false_iff_ne.mpr I
 clear I
 by_cases I : a0 = 10
 ·have e10 : (a0 == 10) = true := beq_iff_eq.mpr I
  rw [show wkind a0 c = 0 from by unfold wkind; (repeat' split) <;> first | rfl | omega]
  clear I
  go_enter Try.func61, Try.ntmps61
  go_wp2_with fail
  refine (class_Of.calls k a0 c _ H1.out).mono ?_
  rintro _ _ ⟨rfl, hb⟩
  go_wp2
  repeat (go_quiet (fail); try go_wp2)
  go_ret
  exact ⟨rfl, hb⟩
 have i_e10 := I
 have e10 : (a0 == 10) = false := beq_eq_false_iff_ne.mpr I
 clear I
 by_cases I : a0 = 13
 ·have e13 : (a0 == 13) = true := beq_iff_eq.mpr I
  rw [show wkind a0 c = 0 from by unfold wkind; (repeat' split) <;> first | rfl | omega]
  clear I
  go_enter Try.func61, Try.ntmps61
  go_wp2_with fail
  refine (class_Of.calls k a0 c _ H1.out).mono ?_
  rintro _ _ ⟨rfl, hb⟩
  go_wp2
  repeat (go_quiet (fail); try go_wp2)
  go_ret
  exact ⟨rfl, hb⟩
 have i_e13 := I
 have e13 : (a0 == 13) = false := beq_eq_false_iff_ne.mpr I
 clear I
 by_cases I : a0 = 32
 ·have e32 : (a0 == 32) = true := beq_iff_eq.mpr I
  rw [show wkind a0 c = 0 from by unfold wkind; (repeat' split) <;> first | rfl | omega]
  clear I
  go_enter Try.func61, Try.ntmps61
  go_wp2_with fail
  refine (class_Of.calls k a0 c _ H1.out).mono ?_
  rintro _ _ ⟨rfl, hb⟩
  go_wp2
  repeat (go_quiet (fail); try go_wp2)
  go_ret
  exact ⟨rfl, hb⟩
 have i_e32 := I
 have e32 : (a0 == 32) = false := beq_eq_false_iff_ne.mpr I
 clear I
 by_cases I : c = 10
 ·have ec : (c == 10) = true := beq_iff_eq.mpr I
  rw [show wkind a0 c = 0 from by unfold wkind; (repeat' split) <;> first | rfl | omega]
  clear I
  go_enter Try.func61, Try.ntmps61
  go_wp2_with fail
  refine (class_Of.calls k a0 c _ H1.out).mono ?_
  rintro _ _ ⟨rfl, hb⟩
  go_wp2
  repeat (go_quiet (fail); try go_wp2)
  go_ret
  exact ⟨rfl, hb⟩
 have i_ec := I
 have ec : (c == 10) = false := beq_eq_false_iff_ne.mpr I
 clear I
 by_cases I : a0 = 95
 ·have e95 : (a0 == 95) = true := beq_iff_eq.mpr I
  have v97 : decide (97 ≤ a0) = false := decide_eq_false (by omega)
  have v122 : decide (a0 ≤ 122) = true := decide_eq_true (by omega)
  have v65 : decide (65 ≤ a0) = true := decide_eq_true (by omega)
  have v90 : decide (a0 ≤ 90) = false := decide_eq_false (by omega)
  have v48 : decide (48 ≤ a0) = true := decide_eq_true (by omega)
  have v57 : decide (a0 ≤ 57) = false := decide_eq_false (by omega)
  have v128 : decide (128 ≤ a0) = false := decide_eq_false (by omega)
  rw [show wkind a0 c = 1 from by unfold wkind; (repeat' split) <;> first | rfl | omega]
  clear I
  go_enter Try.func61, Try.ntmps61
  go_wp2_with fail
  refine (class_Of.calls k a0 c _ H1.out).mono ?_
  rintro _ _ ⟨rfl, hb⟩
  go_wp2
  repeat (go_quiet (fail); try go_wp2)
  go_ret
  exact ⟨rfl, hb⟩
 have i_e95 := I
 have e95 : (a0 == 95) = false := beq_eq_false_iff_ne.mpr I
 clear I
 have I : a0 < 48 ∨ (48 ≤ a0 ∧ a0 ≤ 57) ∨ (58 ≤ a0 ∧ a0 ≤ 64) ∨ (65 ≤ a0 ∧ a0 ≤ 90) ∨ (91 ≤ a0 ∧ a0 ≤ 96) ∨ (97 ≤ a0 ∧ a0 ≤ 122) ∨ (123 ≤ a0 ∧ a0 ≤ 127) ∨ 128 ≤ a0 := by omega
 rcases I with I | I | I | I | I | I | I | I
 ·have v97 : decide (97 ≤ a0) = false := decide_eq_false (by omega)
  have v122 : decide (a0 ≤ 122) = true := decide_eq_true (by omega)
  have v65 : decide (65 ≤ a0) = false := decide_eq_false (by omega)
  have v90 : decide (a0 ≤ 90) = true := decide_eq_true (by omega)
  have v48 : decide (48 ≤ a0) = false := decide_eq_false (by omega)
  have v57 : decide (a0 ≤ 57) = true := decide_eq_true (by omega)
  have v128 : decide (128 ≤ a0) = false := decide_eq_false (by omega)
  rw [show wkind a0 c = 2 from by unfold wkind; (repeat' split) <;> first | rfl | omega]
  clear I
  go_enter Try.func61, Try.ntmps61
  go_wp2_with fail
  refine (class_Of.calls k a0 c _ H1.out).mono ?_
  rintro _ _ ⟨rfl, hb⟩
  go_wp2
  repeat (go_quiet (fail); try go_wp2)
  go_ret
  exact ⟨rfl, hb⟩
 ·have v97 : decide (97 ≤ a0) = false := decide_eq_false (by omega)
  have v122 : decide (a0 ≤ 122) = true := decide_eq_true (by omega)
  have v65 : decide (65 ≤ a0) = false := decide_eq_false (by omega)
  have v90 : decide (a0 ≤ 90) = true := decide_eq_true (by omega)
  have v48 : decide (48 ≤ a0) = true := decide_eq_true (by omega)
  have v57 : decide (a0 ≤ 57) = true := decide_eq_true (by omega)
  have v128 : decide (128 ≤ a0) = false := decide_eq_false (by omega)
  rw [show wkind a0 c = 1 from by unfold wkind; (repeat' split) <;> first | rfl | omega]
  clear I
  go_enter Try.func61, Try.ntmps61
  go_wp2_with fail
  refine (class_Of.calls k a0 c _ H1.out).mono ?_
  rintro _ _ ⟨rfl, hb⟩
  go_wp2
  repeat (go_quiet (fail); try go_wp2)
  go_ret
  exact ⟨rfl, hb⟩
 ·have v97 : decide (97 ≤ a0) = false := decide_eq_false (by omega)
  have v122 : decide (a0 ≤ 122) = true := decide_eq_true (by omega)
  have v65 : decide (65 ≤ a0) = false := decide_eq_false (by omega)
  have v90 : decide (a0 ≤ 90) = true := decide_eq_true (by omega)
  have v48 : decide (48 ≤ a0) = true := decide_eq_true (by omega)
  have v57 : decide (a0 ≤ 57) = false := decide_eq_false (by omega)
  have v128 : decide (128 ≤ a0) = false := decide_eq_false (by omega)
  rw [show wkind a0 c = 2 from by unfold wkind; (repeat' split) <;> first | rfl | omega]
  clear I
  go_enter Try.func61, Try.ntmps61
  go_wp2_with fail
  refine (class_Of.calls k a0 c _ H1.out).mono ?_
  rintro _ _ ⟨rfl, hb⟩
  go_wp2
  repeat (go_quiet (fail); try go_wp2)
  go_ret
  exact ⟨rfl, hb⟩
 ·have v97 : decide (97 ≤ a0) = false := decide_eq_false (by omega)
  have v122 : decide (a0 ≤ 122) = true := decide_eq_true (by omega)
  have v65 : decide (65 ≤ a0) = true := decide_eq_true (by omega)
  have v90 : decide (a0 ≤ 90) = true := decide_eq_true (by omega)
  have v48 : decide (48 ≤ a0) = true := decide_eq_true (by omega)
  have v57 : decide (a0 ≤ 57) = false := decide_eq_false (by omega)
  have v128 : decide (128 ≤ a0) = false := decide_eq_false (by omega)
  rw [show wkind a0 c = 1 from by unfold wkind; (repeat' split) <;> first | rfl | omega]
  clear I
  go_enter Try.func61, Try.ntmps61
  go_wp2_with fail
  refine (class_Of.calls k a0 c _ H1.out).mono ?_
  rintro _ _ ⟨rfl, hb⟩
  go_wp2
  repeat (go_quiet (fail); try go_wp2)
  go_ret
  exact ⟨rfl, hb⟩
 ·have v97 : decide (97 ≤ a0) = false := decide_eq_false (by omega)
  have v122 : decide (a0 ≤ 122) = true := decide_eq_true (by omega)
  have v65 : decide (65 ≤ a0) = true := decide_eq_true (by omega)
  have v90 : decide (a0 ≤ 90) = false := decide_eq_false (by omega)
  have v48 : decide (48 ≤ a0) = true := decide_eq_true (by omega)
  have v57 : decide (a0 ≤ 57) = false := decide_eq_false (by omega)
  have v128 : decide (128 ≤ a0) = false := decide_eq_false (by omega)
  rw [show wkind a0 c = 2 from by unfold wkind; (repeat' split) <;> first | rfl | omega]
  clear I
  go_enter Try.func61, Try.ntmps61
  go_wp2_with fail
  refine (class_Of.calls k a0 c _ H1.out).mono ?_
  rintro _ _ ⟨rfl, hb⟩
  go_wp2
  repeat (go_quiet (fail); try go_wp2)
  go_ret
  exact ⟨rfl, hb⟩
 ·have v97 : decide (97 ≤ a0) = true := decide_eq_true (by omega)
  have v122 : decide (a0 ≤ 122) = true := decide_eq_true (by omega)
  have v65 : decide (65 ≤ a0) = true := decide_eq_true (by omega)
  have v90 : decide (a0 ≤ 90) = false := decide_eq_false (by omega)
  have v48 : decide (48 ≤ a0) = true := decide_eq_true (by omega)
  have v57 : decide (a0 ≤ 57) = false := decide_eq_false (by omega)
  have v128 : decide (128 ≤ a0) = false := decide_eq_false (by omega)
  rw [show wkind a0 c = 1 from by unfold wkind; (repeat' split) <;> first | rfl | omega]
  clear I
  go_enter Try.func61, Try.ntmps61
  go_wp2_with fail
  refine (class_Of.calls k a0 c _ H1.out).mono ?_
  rintro _ _ ⟨rfl, hb⟩
  go_wp2
  repeat (go_quiet (fail); try go_wp2)
  go_ret
  exact ⟨rfl, hb⟩
 ·have v97 : decide (97 ≤ a0) = true := decide_eq_true (by omega)
  have v122 : decide (a0 ≤ 122) = false := decide_eq_false (by omega)
  have v65 : decide (65 ≤ a0) = true := decide_eq_true (by omega)
  have v90 : decide (a0 ≤ 90) = false := decide_eq_false (by omega)
  have v48 : decide (48 ≤ a0) = true := decide_eq_true (by omega)
  have v57 : decide (a0 ≤ 57) = false := decide_eq_false (by omega)
  have v128 : decide (128 ≤ a0) = false := decide_eq_false (by omega)
  rw [show wkind a0 c = 2 from by unfold wkind; (repeat' split) <;> first | rfl | omega]
  clear I
  go_enter Try.func61, Try.ntmps61
  go_wp2_with fail
  refine (class_Of.calls k a0 c _ H1.out).mono ?_
  rintro _ _ ⟨rfl, hb⟩
  go_wp2
  repeat (go_quiet (fail); try go_wp2)
  go_ret
  exact ⟨rfl, hb⟩
 ·have v97 : decide (97 ≤ a0) = true := decide_eq_true (by omega)
  have v122 : decide (a0 ≤ 122) = false := decide_eq_false (by omega)
  have v65 : decide (65 ≤ a0) = true := decide_eq_true (by omega)
  have v90 : decide (a0 ≤ 90) = false := decide_eq_false (by omega)
  have v48 : decide (48 ≤ a0) = true := decide_eq_true (by omega)
  have v57 : decide (a0 ≤ 57) = false := decide_eq_false (by omega)
  have v128 : decide (128 ≤ a0) = true := decide_eq_true (by omega)
  by_cases J : 1 ≤ c
  ·have c1 : decide (1 ≤ c) = true := decide_eq_true J
   by_cases J2 : c ≤ 3
   ·have c3 : decide (c ≤ 3) = true := decide_eq_true J2
    rw [show wkind a0 c = 1 from by unfold wkind; (repeat' split) <;> first | rfl | omega]
    clear I J J2
    go_enter Try.func61, Try.ntmps61
    go_wp2_with fail
    refine (class_Of.calls k a0 c _ H1.out).mono ?_
    rintro _ _ ⟨rfl, hb⟩
    go_wp2
    repeat (go_quiet (fail); try go_wp2)
    go_ret
    exact ⟨rfl, hb⟩
   ·have c3 : decide (c ≤ 3) = false := decide_eq_false J2
    rw [show wkind a0 c = 2 from by unfold wkind; (repeat' split) <;> first | rfl | omega]
    clear I J J2
    go_enter Try.func61, Try.ntmps61
    go_wp2_with fail
    refine (class_Of.calls k a0 c _ H1.out).mono ?_
    rintro _ _ ⟨rfl, hb⟩
    go_wp2
    repeat (go_quiet (fail); try go_wp2)
    go_ret
    exact ⟨rfl, hb⟩
  ·have c1 : decide (1 ≤ c) = false := decide_eq_false J
   rw [show wkind a0 c = 2 from by unfold wkind; (repeat' split) <;> first | rfl | omega]
   clear I J
   go_enter Try.func61, Try.ntmps61
   go_wp2_with fail
   refine (class_Of.calls k a0 c _ H1.out).mono ?_
   rintro _ _ ⟨rfl, hb⟩
   go_wp2
   repeat (go_quiet (fail); try go_wp2)
   go_ret
   exact ⟨rfl, hb⟩

end Go.Proofs.Ytemoocoedibbpab.X

namespace Go.Proofs.Ytemoocoedibbpab.X
open Go.RowKit Go.Proofs.YtemoocoedibbpabW.PrintWords Go.Proofs.YtemoocoedibbpabW.PrintLast Go.Proofs.YtemoocoedibbpabW.PrintMore
attribute [local go_sem] max2_int min2_int max_two min_two max_three min_three max_four min_four
set_option linter.unusedVariables false
set_option linter.unusedSimpArgs false

/-- The least of so many places from one on, of which something is so. -/
def upP (so : Int → Bool) (or : Int) : Nat → Int → Int
  | 0, _ => or
  | n + 1, i => if so i = true then i else upP so or n (i + 1)
/-- The greatest of so many places from one downward, of which something is so; else 0. -/
def downP (so : Int → Bool) : Nat → Int → Int
  | 0, _ => 0
  | n + 1, i => if so i = true then i else downP so n (i - 1)
/-- A place within a list. -/
def pl (at_ : Int) (n : Nat) : Int := if (n : Int) < (if at_ < 0 then 0 else at_) then (n : Int) else (if at_ < 0 then 0 else at_)
theorem pl_range (at_ : Int) (n : Nat) : 0 ≤ pl at_ n ∧ pl at_ n ≤ n := by unfold pl; (repeat' split) <;> omega

end Go.Proofs.Ytemoocoedibbpab.X

namespace Go.Proofs.Ytemoocoedibbpab.X
open Go.RowKit Go.Proofs.YtemoocoedibbpabW.PrintWords Go.Proofs.YtemoocoedibbpabW.PrintLast Go.Proofs.YtemoocoedibbpabW.PrintMore
attribute [local go_sem] max2_int min2_int max_two min_two max_three min_three max_four min_four
set_option linter.unusedVariables false
set_option linter.unusedSimpArgs false

/-! ### word_down: function 115 -/
set_option maxHeartbeats 4000000 in
set_option maxRecDepth 100000 in
theorem word_down.calls (so : Int → Bool) (g : Nat) (lb : Array Value) (eg : ∀ args w, (callFunc g args).run Try.prog w = .ok (.enter g args) w) (A0 : Option Addr) (n c0 : Nat) (at_ : Int) (w : World) (hn : n ≤ 1000000000000000)
    (hp : ∀ (W : World) (x : Int), 1 ≤ x → x < n → Below w.heap.size w W → Calls Try.prog g (#[.int .i64 x] ++ lb) W fun e w' => e = .returned (.bool (so x)) ∧ Below w.heap.size w w') :
    Calls Try.prog 115 #[.slice A0 n c0, .int .i64 at_, .func (.func g) #[] lb] w fun e w' => e = .returned (.int .i64 (downP so ((pl at_ n).toNat - 1) (pl at_ n - 1))) ∧ Below w.heap.size w w' := by
  have HP := Aside0.mk hp
  clear hp
  obtain ⟨p0, p1⟩ := pl_range at_ n
  obtain ⟨j, hj, hpl⟩ : ∃ j, (if at_ < 0 then 0 else at_) = j ∧ (if (n : Int) < j then (n : Int) else j) = pl at_ n := ⟨_, rfl, rfl⟩
  generalize pl at_ n = p at p0 p1 hpl
  have hw : wrap64 (p - 1) = p - 1 := by unfold wrap64; omega
  have HA := Aside0.mk (And.intro p0 (And.intro p1 hn))
  clear p0 p1 hn
  go_enter Try.func115, Try.ntmps115
  go_wp2
  have HW := Aside0.mk hw
  clear hpl hj hw
  go_loopg [7] n (fun gg s7 wr => ∃ i : Int, -1 ≤ i ∧ i < n ∧ i ≤ gg ∧ s7 = .int .i64 i ∧ Aside0 (downP so i.toNat i = downP so (p.toNat - 1) (p - 1)) ∧ Aside0 (Below w.heap.size w wr))
  case atStart => exact ⟨p - 1, by have := HA.out; omega, by have := HA.out; omega, by have := HA.out; omega, by rw [HW.out], ⟨by have := HA.out; congr 1; omega⟩, ⟨Below.refl _ w⟩⟩
  case round =>
    obtain ⟨i, h1, h2, hg, rfl, HE, HB⟩ := hrel
    by_cases hle : i > 0
    · have e1 : decide (0 < i) = true := decide_eq_true hle
      have hw2 : wrap64 (i - 1) = i - 1 := by have := HA.out; unfold wrap64; omega
      have hcall := HP.out wr i (by omega) h2 HB.out
      have hE := HE.out
      obtain ⟨d, hd⟩ : ∃ d, i.toNat = d + 1 := ⟨(i - 1).toNat, by omega⟩
      rw [hd, downP] at hE
      cases hq : so i with
      | true =>
        rw [hq] at hcall
        rw [if_pos hq] at hE
        have HE2 := Aside0.mk hE
        clear hE HE hq
        go_wp2_with ((with_reducible refine hcall.mono ?_); rintro e w' ⟨rfl, hb'⟩)
        go_ret
        exact ⟨by rw [← HE2.out]; rfl, hb'⟩
      | false =>
        rw [hq] at hcall
        rw [if_neg (by rw [hq]; decide)] at hE
        have HE2 := Aside0.mk hE
        clear hE HE hq
        go_wp2_with ((with_reducible refine hcall.mono ?_); rintro e w' ⟨rfl, hb'⟩)
        go_roundg (i.toNat - 1)
        case measure => omega
        case rel => exact ⟨i - 1, by omega, by omega, by omega, by first | rfl | (simp [*]; done), ⟨by rw [← HE2.out]; congr 1; omega⟩, ⟨hb'⟩⟩
    · have e1 : decide (0 < i) = false := decide_eq_false hle
      have hE := HE.out
      rw [show i.toNat = 0 by omega, downP] at hE
      have HE2 := Aside0.mk hE
      clear hE HE hle
      go_wp2
      go_ret
      exact ⟨by rw [← HE2.out]; rfl, HB.out⟩

end Go.Proofs.Ytemoocoedibbpab.X

namespace Go.Proofs.Ytemoocoedibbpab.X
open Go.RowKit Go.Proofs.YtemoocoedibbpabW.PrintWords Go.Proofs.YtemoocoedibbpabW.PrintLast Go.Proofs.YtemoocoedibbpabW.PrintMore
attribute [local go_sem] max2_int min2_int max_two min_two max_three min_three max_four min_four
set_option linter.unusedVariables false
set_option linter.unusedSimpArgs false

/-! ### word_kinds_1: function 156 -/
theorem class_j0_some (k : Nat) (v : Int) : ∃ r, class_Of.j0 (k + 1) v = some r := by
  rw [class_Of.j0]
  rw [show class_spans.f = some ((class_spans.f).getD []) from rfl, Option.bind_some]
  generalize (class_spans.f).getD [] = sp
  obtain ⟨a, ha⟩ : ∃ a, class_in.f v sp = some a := ⟨_, rfl⟩
  rw [ha, Option.bind_some]
  split
  · obtain ⟨b, hb⟩ : ∃ b, class_Skeleton.f v = some b := ⟨_, rfl⟩
    rw [hb, Option.bind_some]
    split
    · rw [show class_wides.f = some ((class_wides.f).getD []) from rfl, Option.bind_some]
      generalize (class_wides.f).getD [] = sq
      obtain ⟨c, hc⟩ : ∃ c, class_in.f v sq = some c := ⟨_, rfl⟩
      rw [hc, Option.bind_some]
      split <;> exact ⟨_, rfl⟩
    · exact ⟨_, rfl⟩
  · exact ⟨_, rfl⟩
theorem class_Of_some (k : Nat) (v : Int) : ∃ r, class_Of.f (k + 1) v = some r := by
  unfold class_Of.f
  obtain ⟨b, hb⟩ : ∃ b, utf_Right.f v = some b := by
    unfold utf_Right.f utf_point.f
    repeat' (first | exact ⟨_, rfl⟩ | split | simp only [Option.bind_some])
  obtain ⟨c, hc⟩ := class_j0_some k v
  rw [hb, Option.bind_some, hc]
  repeat' (first | exact ⟨_, rfl⟩ | split)
theorem word_Kind_some (v : Int) : ∃ r, word_Kind.f 9 v = some r := by
  obtain ⟨c, hc⟩ := class_Of_some 8 v
  exact ⟨wkind v c, by unfold word_Kind.f; rw [hc, Option.bind_some]⟩
/-- A value's kind. -/
def kindT (v : Int) : Int := (word_Kind.f 9 v).getD 0
theorem kindT_f (v : Int) : word_Kind.f 9 v = some (kindT v) := by
  obtain ⟨r, h⟩ := word_Kind_some v
  unfold kindT
  rw [h]
  rfl
/-- The kind of the sign at a place; below 0: none stands there. -/
def kAt (l : List S47) (i : Int) : Int := if i < 0 then -1 else if i ≥ (l.length : Int) then -1 else kindT (rd_T47 l i).f0
set_option maxHeartbeats 4000000 in
set_option maxRecDepth 100000 in
theorem word_kinds_1.calls (b1 b2 : Nat) (A : Option Addr) (c : Nat) (l : List S47) (at_ : Int) (W : World) (hr : Kd.C k47 W A l.length l) (h1 : W.cell? ⟨b1, 0, none⟩ = some (.slice A l.length c)) (h2 : W.cell? ⟨b2, 0, none⟩ = some (.bool false)) :
    Calls Try.prog 156 #[.int .i64 at_, .pointer (some ⟨b1, 0, none⟩), .pointer (some ⟨b2, 0, none⟩)] W fun e w' => e = .returned (.int .i64 (kAt l at_)) ∧ Below W.heap.size W w' := by
  have HR := Aside0.mk hr
  clear hr
  unfold kAt
  by_cases c1 : at_ < 0
  · rw [if_pos c1]
    have e1 : decide (at_ < 0) = true := decide_eq_true c1
    clear c1
    go_enter Try.func156, Try.ntmps156
    go_wp2
    go_ret
    exact ⟨rfl, Below.refl _ _⟩
  · rw [if_neg c1]
    have e1 : decide (at_ < 0) = false := decide_eq_false c1
    by_cases c2 : at_ ≥ (l.length : Int)
    · rw [if_pos c2]
      have e2 : decide ((l.length : Int) ≤ at_) = true := decide_eq_true c2
      clear c1 c2
      go_enter Try.func156, Try.ntmps156
      go_wp2
      go_ret
      exact ⟨rfl, Below.refl _ _⟩
    · rw [if_neg c2]
      have e2 : decide ((l.length : Int) ≤ at_) = false := decide_eq_false c2
      have e3 : decide (0 ≤ at_) = true := decide_eq_true (by omega)
      have e4 : decide (at_ < (l.length : Int)) = true := decide_eq_true (by omega)
      obtain ⟨ad, e, x0, x1⟩ := at_T47 HR.out at_ (by omega) (by omega)
      cases e
      generalize (rd_T47 l at_).f0 = v at x0
      have HK := Aside0.mk (kindT_f v)
      generalize kindT v = q at HK
      have p1 := eq_true (show 0 ≤ at_ by omega)
      have p2 := eq_true (show at_ < (l.length : Int) by omega)
      clear c1 c2 x1
      go_enter Try.func156, Try.ntmps156
      go_wp2_with fail
      refine (word_Kind.calls 9 v q _ HK.out).mono ?_
      rintro e w1 ⟨rfl, hb⟩
      have h2' : w1.cell? ⟨b2, 0, none⟩ = some (.bool false) := (hb.cell (p := ⟨b2, 0, none⟩) (World.block_lt_of_cell? W _ h2)).trans h2
      clear h2
      go_wp2
      repeat (go_quiet (fail); try go_wp2)
      go_ret
      exact ⟨rfl, hb⟩

end Go.Proofs.Ytemoocoedibbpab.X

namespace Go.Proofs.Ytemoocoedibbpab.X
open Go.RowKit Go.Proofs.YtemoocoedibbpabW.PrintWords Go.Proofs.YtemoocoedibbpabW.PrintLast Go.Proofs.YtemoocoedibbpabW.PrintMore
attribute [local go_sem] max2_int min2_int max_two min_two max_three min_three max_four min_four
set_option linter.unusedVariables false
set_option linter.unusedSimpArgs false

/-! ### word_Back: function 71 -/
attribute [local go_sem] run_store_func
def backSo (l : List S47) (i : Int) : Bool := if kAt l i = 1 then kAt l (i - 1) != 1 else false
def word_Back.f (l0 : List S47) (a1 : Int) : Option Int := if l0.length ≤ 1000000000000000 then some (downP (backSo l0) ((pl a1 l0.length).toNat - 1) (pl a1 l0.length - 1)) else none
set_option maxHeartbeats 4000000 in
set_option maxRecDepth 100000 in
theorem word_Back_1.calls (b0 b1 b2 : Nat) (A : Option Addr) (c : Nat) (l : List S47) (i : Int) (W : World) (h0 : 0 ≤ i) (hi : i ≤ 9000000000000000000) (hr : Kd.C k47 W A l.length l) (g1 : W.cell? ⟨b1, 0, none⟩ = some (.slice A l.length c)) (g2 : W.cell? ⟨b2, 0, none⟩ = some (.bool false)) (g0 : W.cell? ⟨b0, 0, none⟩ = some (.func (.func 156) #[] #[.pointer (some ⟨b1, 0, none⟩), .pointer (some ⟨b2, 0, none⟩)])) :
  Calls Try.prog 116 #[.int .i64 i, .pointer (some ⟨b0, 0, none⟩)] W fun e w' => e = .returned (.bool (backSo l i)) ∧ Below W.heap.size W w' := by
 have HR := Aside0.mk hr
 have H1 := Aside0.mk g1
 have H2 := Aside0.mk g2
 have eg := enters_fn Try.func156 (by kernel_rfl) rfl
 have hc1 := Aside0.mk (word_kinds_1.calls b1 b2 A c l i W hr g1 g2)
 clear hr g1 g2
 unfold backSo
 have hw : wrap64 (i - 1) = i - 1 := by unfold wrap64; omega
 have hc2 : ∀ w1, Below W.heap.size W w1 → Calls Try.prog 156 #[.int .i64 (i - 1), .pointer (some ⟨b1, 0, none⟩), .pointer (some ⟨b2, 0, none⟩)] w1 fun e w' => e = .returned (.int .i64 (kAt l (i - 1))) ∧ Below w1.heap.size w1 w' := fun w1 hb =>
  word_kinds_1.calls b1 b2 A c l (i - 1) w1 (Kd.C_below HR.out hb) ((hb.cell (p := ⟨b1, 0, none⟩) (World.block_lt_of_cell? W _ H1.out)).trans H1.out) ((hb.cell (p := ⟨b2, 0, none⟩) (World.block_lt_of_cell? W _ H2.out)).trans H2.out)
 have HC2 := Aside0.mk hc2
 clear hc2
 generalize kAt l i = x at hc1
 generalize kAt l (i - 1) = y at HC2
 have G0 := Aside0.mk (World.block_lt_of_cell? W _ g0)
 by_cases e : x = 1
 ·have e1 : (x == 1) = true := beq_iff_eq.mpr e
  rw [if_pos e]
  clear e
  go_enter Try.func116, Try.ntmps116
  go_wp2_with fail
  refine hc1.out.mono ?_
  rintro e w1 ⟨rfl, hb⟩
  have g0' : w1.cell? ⟨b0, 0, none⟩ = some (.func (.func 156) #[] #[.pointer (some ⟨b1, 0, none⟩), .pointer (some ⟨b2, 0, none⟩)]) := (hb.cell (p := ⟨b0, 0, none⟩) G0.out).trans g0
  have HC3 := Aside0.mk (HC2.out w1 hb)
  go_wp2_with fail
  refine HC3.out.mono ?_
  rintro e w2 ⟨rfl, hb2⟩
  go_wp2
  go_ret
  exact ⟨rfl, below_step hb hb2⟩
 ·have e1 : (x == 1) = false := beq_eq_false_iff_ne.mpr e
  rw [if_neg e]
  clear e
  go_enter Try.func116, Try.ntmps116
  go_wp2_with fail
  refine hc1.out.mono ?_
  rintro e w1 ⟨rfl, hb⟩
  go_wp2
  go_ret
  exact ⟨rfl, hb⟩
set_option maxHeartbeats 4000000 in
set_option maxRecDepth 100000 in
theorem word_Back.calls (A0 : Option Addr) (c0 : Nat) (l0 : List S47) (a1 : Int) (r : Int) (w : World) (hr0 : Kd.C k47 w A0 l0.length l0) (hc0 : l0.length ≤ c0) (h : word_Back.f l0 a1 = some r) :
  Calls Try.prog 71 #[.slice A0 l0.length c0, .int .i64 a1] w fun e w' => e = .returned (.int .i64 r) ∧ Below w.heap.size w w' := by
 unfold word_Back.f at h
 by_cases hn : l0.length ≤ 1000000000000000
 ·rw [if_pos hn] at h
  obtain rfl := Option.some.inj h
  have HN := Aside0.mk hn
  have HR := Aside0.mk hr0
  clear h hn hr0 hc0
  have eg := enters_fn Try.func116 (by kernel_rfl) rfl
  have HK := Aside0.mk (kindsI_made w A0 l0.length c0)
  have HP := Aside0.mk (show ∀ (W : World) (x : Int), 1 ≤ x → x < l0.length → KindsI w.heap.size A0 l0.length c0 W → Below w.heap.size w W → Calls Try.prog 116 (#[.int .i64 x] ++ #[.pointer (some ⟨w.heap.size + 1 + 1, 0, none⟩)]) W fun e w' => e = .returned (.bool (backSo l0 x)) ∧ Below W.heap.size W w' from fun W x h1 h2 hk hb =>
   word_Back_1.calls (w.heap.size + 1 + 1) w.heap.size (w.heap.size + 1) A0 c0 l0 x W (by omega) (by have := HN.out; omega) (Kd.C_below HR.out hb) ((blk_cell hk.b0 0).trans rfl) ((blk_cell hk.b1 0).trans rfl) ((blk_cell hk.b2 0).trans rfl))
  go_enter Try.func71, Try.ntmps71
  go_wp2_with fail
  refine (word_kinds.calls A0 l0.length c0 false w).mono ?_
  rintro e w1 ⟨rfl, rfl⟩
  go_wp2_with fail
  have HK2 := Aside0.mk HK.out
  unfold kindsW at HK2
  generalize hW : ((w.alloc (.cells #[.slice A0 l0.length c0] 22)).alloc (.cells #[.bool false] 4)).alloc (.cells #[.func (.func 156) #[] #[.pointer (some ⟨w.heap.size, 0, none⟩), .pointer (some ⟨w.heap.size + 1, 0, none⟩)]] 95) = W2 at HK2
  clear hW
  refine (word_down.calls (backSo l0) _ _ eg A0 l0.length c0 a1 W2 HN.out (fun W x h1 h2 hb => ?_)).mono ?_
  ·have hk := HK2.out.1.below hb
   have hb2 := below_step HK2.out.2 hb
   exact (HP.out W x h1 h2 hk hb2).mono fun e w' ⟨he, hb'⟩ => ⟨he, below_step hb hb'⟩
  ·rintro e w3 ⟨rfl, hb⟩
   go_wp2
   go_ret
   exact ⟨rfl, below_step HK2.out.2 hb⟩
 ·rw [if_neg hn] at h
  cases h

end Go.Proofs.Ytemoocoedibbpab.X

namespace Go.Proofs.Ytemoocoedibbpab.X
open Go.RowKit Go.Proofs.YtemoocoedibbpabW.PrintWords Go.Proofs.YtemoocoedibbpabW.PrintLast Go.Proofs.YtemoocoedibbpabW.PrintMore
attribute [local go_sem] max2_int min2_int max_two min_two max_three min_three max_four min_four
set_option linter.unusedVariables false
set_option linter.unusedSimpArgs false

/-! ### word_up: function 117 -/
set_option maxHeartbeats 4000000 in
set_option maxRecDepth 100000 in
theorem word_up.calls (so : Int → Bool) (g : Nat) (lb : Array Value) (eg : ∀ args w, (callFunc g args).run Try.prog w = .ok (.enter g args) w) (A0 : Option Addr) (n c0 : Nat) (at_ : Int) (w : World) (hn : n ≤ 1000000000000000)
    (hp : ∀ (W : World) (x : Int), 1 ≤ x → x ≤ n → Below w.heap.size w W → Calls Try.prog g (#[.int .i64 x] ++ lb) W fun e w' => e = .returned (.bool (so x)) ∧ Below w.heap.size w w') :
    Calls Try.prog 117 #[.slice A0 n c0, .int .i64 at_, .int .i64 (n : Int), .int .i64 (n : Int), .func (.func g) #[] lb] w fun e w' => e = .returned (.int .i64 (upP so n (n - (pl at_ n).toNat) (pl at_ n + 1))) ∧ Below w.heap.size w w' := by
  have HP := Aside0.mk hp
  clear hp
  obtain ⟨p0, p1⟩ := pl_range at_ n
  obtain ⟨j, hj, hpl⟩ : ∃ j, (if at_ < 0 then 0 else at_) = j ∧ (if (n : Int) < j then (n : Int) else j) = pl at_ n := ⟨_, rfl, rfl⟩
  generalize pl at_ n = p at p0 p1 hpl
  have hw : wrap64 (p + 1) = p + 1 := by unfold wrap64; omega
  have HA := Aside0.mk (And.intro p0 (And.intro p1 hn))
  clear p0 p1 hn
  go_enter Try.func117, Try.ntmps117
  go_wp2
  have HW := Aside0.mk hw
  clear hpl hj hw
  go_loopg [11] n (fun gg s11 wr => ∃ i : Int, 1 ≤ i ∧ i ≤ n + 1 ∧ (n : Int) - i + 1 ≤ gg ∧ s11 = .int .i64 i ∧ Aside0 (upP so n ((n : Int) - i + 1).toNat i = upP so n (n - p.toNat) (p + 1)) ∧ Aside0 (Below w.heap.size w wr))
  case atStart => exact ⟨p + 1, by have := HA.out; omega, by have := HA.out; omega, by have := HA.out; omega, by rw [HW.out], ⟨by have := HA.out; congr 1; omega⟩, ⟨Below.refl _ w⟩⟩
  case round =>
    obtain ⟨i, h1, h2, hg, rfl, HE, HB⟩ := hrel
    by_cases hle : i ≤ n
    · have e1 : decide (i ≤ (n : Int)) = true := decide_eq_true hle
      have hw2 : wrap64 (i + 1) = i + 1 := by have := HA.out; unfold wrap64; omega
      have hcall := HP.out wr i h1 hle HB.out
      have hE := HE.out
      obtain ⟨d, hd⟩ : ∃ d, ((n : Int) - i + 1).toNat = d + 1 := ⟨((n : Int) - i).toNat, by omega⟩
      rw [hd, upP] at hE
      cases hq : so i with
      | true =>
        rw [hq] at hcall
        rw [if_pos hq] at hE
        have HE2 := Aside0.mk hE
        clear hE HE hq
        go_wp2_with ((with_reducible refine hcall.mono ?_); rintro e w' ⟨rfl, hb'⟩)
        go_ret
        exact ⟨by rw [← HE2.out]; rfl, hb'⟩
      | false =>
        rw [hq] at hcall
        rw [if_neg (by rw [hq]; decide)] at hE
        have HE2 := Aside0.mk hE
        clear hE HE hq
        go_wp2_with ((with_reducible refine hcall.mono ?_); rintro e w' ⟨rfl, hb'⟩)
        go_roundg (n - i.toNat)
        case measure => omega
        case rel => exact ⟨i + 1, by omega, by omega, by omega, by first | rfl | (simp [*]; done), ⟨by rw [← HE2.out]; congr 1; omega⟩, ⟨hb'⟩⟩
    · have e1 : decide (i ≤ (n : Int)) = false := decide_eq_false hle
      obtain rfl : i = n + 1 := by omega
      have hE := HE.out
      rw [show ((n : Int) - (n + 1) + 1).toNat = 0 by omega, upP] at hE
      have HE2 := Aside0.mk hE
      clear hE HE hle
      go_wp2
      go_ret
      exact ⟨by rw [← HE2.out]; rfl, HB.out⟩

end Go.Proofs.Ytemoocoedibbpab.X

namespace Go.Proofs.Ytemoocoedibbpab.X
open Go.RowKit Go.Proofs.YtemoocoedibbpabW.PrintWords Go.Proofs.YtemoocoedibbpabW.PrintLast Go.Proofs.YtemoocoedibbpabW.PrintMore
attribute [local go_sem] max2_int min2_int max_two min_two max_three min_three max_four min_four
set_option linter.unusedVariables false
set_option linter.unusedSimpArgs false

/-! ### word_Next: function 72 -/
attribute [local go_sem] run_store_func
def nextSo (l : List S47) (i : Int) : Bool := if kAt l (i - 1) = 1 then kAt l i != 1 else false
def word_Next.f (l0 : List S47) (a1 : Int) : Option Int := if l0.length ≤ 1000000000000000 then some (upP (nextSo l0) l0.length (l0.length - (pl a1 l0.length).toNat) (pl a1 l0.length + 1)) else none
set_option maxHeartbeats 4000000 in
set_option maxRecDepth 100000 in
theorem word_Next_1.calls (b0 b1 b2 : Nat) (A : Option Addr) (c : Nat) (l : List S47) (i : Int) (W : World) (h0 : 0 ≤ i) (hi : i ≤ 9000000000000000000) (hr : Kd.C k47 W A l.length l) (g1 : W.cell? ⟨b1, 0, none⟩ = some (.slice A l.length c)) (g2 : W.cell? ⟨b2, 0, none⟩ = some (.bool false)) (g0 : W.cell? ⟨b0, 0, none⟩ = some (.func (.func 156) #[] #[.pointer (some ⟨b1, 0, none⟩), .pointer (some ⟨b2, 0, none⟩)])) :
  Calls Try.prog 118 #[.int .i64 i, .pointer (some ⟨b0, 0, none⟩)] W fun e w' => e = .returned (.bool (nextSo l i)) ∧ Below W.heap.size W w' := by
 have HR := Aside0.mk hr
 have H1 := Aside0.mk g1
 have H2 := Aside0.mk g2
 have eg := enters_fn Try.func156 (by kernel_rfl) rfl
 have hc1 := Aside0.mk (word_kinds_1.calls b1 b2 A c l (i - 1) W hr g1 g2)
 clear hr g1 g2
 unfold nextSo
 have hw : wrap64 (i - 1) = i - 1 := by unfold wrap64; omega
 have hc2 : ∀ w1, Below W.heap.size W w1 → Calls Try.prog 156 #[.int .i64 i, .pointer (some ⟨b1, 0, none⟩), .pointer (some ⟨b2, 0, none⟩)] w1 fun e w' => e = .returned (.int .i64 (kAt l i)) ∧ Below w1.heap.size w1 w' := fun w1 hb =>
  word_kinds_1.calls b1 b2 A c l i w1 (Kd.C_below HR.out hb) ((hb.cell (p := ⟨b1, 0, none⟩) (World.block_lt_of_cell? W _ H1.out)).trans H1.out) ((hb.cell (p := ⟨b2, 0, none⟩) (World.block_lt_of_cell? W _ H2.out)).trans H2.out)
 have HC2 := Aside0.mk hc2
 clear hc2
 generalize kAt l (i - 1) = x at hc1
 generalize kAt l i = y at HC2
 have G0 := Aside0.mk (World.block_lt_of_cell? W _ g0)
 by_cases e : x = 1
 ·have e1 : (x == 1) = true := beq_iff_eq.mpr e
  rw [if_pos e]
  clear e
  go_enter Try.func118, Try.ntmps118
  go_wp2_with fail
  refine hc1.out.mono ?_
  rintro e w1 ⟨rfl, hb⟩
  have g0' : w1.cell? ⟨b0, 0, none⟩ = some (.func (.func 156) #[] #[.pointer (some ⟨b1, 0, none⟩), .pointer (some ⟨b2, 0, none⟩)]) := (hb.cell (p := ⟨b0, 0, none⟩) G0.out).trans g0
  have HC3 := Aside0.mk (HC2.out w1 hb)
  go_wp2_with fail
  refine HC3.out.mono ?_
  rintro e w2 ⟨rfl, hb2⟩
  go_wp2
  go_ret
  exact ⟨rfl, below_step hb hb2⟩
 ·have e1 : (x == 1) = false := beq_eq_false_iff_ne.mpr e
  rw [if_neg e]
  clear e
  go_enter Try.func118, Try.ntmps118
  go_wp2_with fail
  refine hc1.out.mono ?_
  rintro e w1 ⟨rfl, hb⟩
  go_wp2
  go_ret
  exact ⟨rfl, hb⟩
set_option maxHeartbeats 4000000 in
set_option maxRecDepth 100000 in
theorem word_Next.calls (A0 : Option Addr) (c0 : Nat) (l0 : List S47) (a1 : Int) (r : Int) (w : World) (hr0 : Kd.C k47 w A0 l0.length l0) (hc0 : l0.length ≤ c0) (h : word_Next.f l0 a1 = some r) :
  Calls Try.prog 72 #[.slice A0 l0.length c0, .int .i64 a1] w fun e w' => e = .returned (.int .i64 r) ∧ Below w.heap.size w w' := by
 unfold word_Next.f at h
 by_cases hn : l0.length ≤ 1000000000000000
 ·rw [if_pos hn] at h
  obtain rfl := Option.some.inj h
  have HN := Aside0.mk hn
  have HR := Aside0.mk hr0
  clear h hn hr0 hc0
  have eg := enters_fn Try.func118 (by kernel_rfl) rfl
  have HK := Aside0.mk (kindsI_made w A0 l0.length c0)
  have HP := Aside0.mk (show ∀ (W : World) (x : Int), 1 ≤ x → x ≤ l0.length → KindsI w.heap.size A0 l0.length c0 W → Below w.heap.size w W → Calls Try.prog 118 (#[.int .i64 x] ++ #[.pointer (some ⟨w.heap.size + 1 + 1, 0, none⟩)]) W fun e w' => e = .returned (.bool (nextSo l0 x)) ∧ Below W.heap.size W w' from fun W x h1 h2 hk hb =>
   word_Next_1.calls (w.heap.size + 1 + 1) w.heap.size (w.heap.size + 1) A0 c0 l0 x W (by omega) (by have := HN.out; omega) (Kd.C_below HR.out hb) ((blk_cell hk.b0 0).trans rfl) ((blk_cell hk.b1 0).trans rfl) ((blk_cell hk.b2 0).trans rfl))
  go_enter Try.func72, Try.ntmps72
  go_wp2_with fail
  refine (word_kinds.calls A0 l0.length c0 false w).mono ?_
  rintro e w1 ⟨rfl, rfl⟩
  go_wp2_with fail
  have HK2 := Aside0.mk HK.out
  unfold kindsW at HK2
  generalize hW : ((w.alloc (.cells #[.slice A0 l0.length c0] 22)).alloc (.cells #[.bool false] 4)).alloc (.cells #[.func (.func 156) #[] #[.pointer (some ⟨w.heap.size, 0, none⟩), .pointer (some ⟨w.heap.size + 1, 0, none⟩)]] 95) = W2 at HK2
  clear hW
  refine (word_up.calls (nextSo l0) _ _ eg A0 l0.length c0 a1 W2 HN.out (fun W x h1 h2 hb => ?_)).mono ?_
  ·have hk := HK2.out.1.below hb
   have hb2 := below_step HK2.out.2 hb
   exact (HP.out W x h1 h2 hk hb2).mono fun e w' ⟨he, hb'⟩ => ⟨he, below_step hb hb'⟩
  ·rintro e w3 ⟨rfl, hb⟩
   go_wp2
   go_ret
   exact ⟨rfl, below_step HK2.out.2 hb⟩
 ·rw [if_neg hn] at h
  cases h

end Go.Proofs.Ytemoocoedibbpab.X

namespace Go.Proofs.Ytemoocoedibbpab.X
open Go.RowKit Go.Proofs.YtemoocoedibbpabW.PrintWords Go.Proofs.YtemoocoedibbpabW.PrintLast Go.Proofs.YtemoocoedibbpabW.PrintMore
attribute [local go_sem] max2_int min2_int max_two min_two max_three min_three max_four min_four
set_option linter.unusedVariables false
set_option linter.unusedSimpArgs false

/-! ### Grow_Sign: function 119 -/
set_option maxHeartbeats 4000000 in
set_option maxRecDepth 100000 in
/-- 'slices.Grow(nil, n)': a row of the call's own, without elements, with room. -/
theorem Grow_Sign.calls (n : Nat) (w : World) (hn : n * 16 ≤ 140737488355328) :
    Calls Try.prog 119 #[.slice none 0 0, .int .i64 (n : Int)] w fun e w' => ∃ v, e = .returned v ∧ Kd.R k47 47 w' w.heap.size (fun _ => True) v [] ∧ Below w.heap.size w w' := by
  by_cases hz : n = 0
  · subst hz
    go_enter Try.func119, Try.ntmps119
    go_wp2
    go_ret
    exact ⟨_, rfl, Kd.R_nil _ _ _ _ _, Below.refl _ _⟩
  · have h1 : ¬ ((n : Int) < 0) := by omega
    have h3 : wrap64 (n : Int) = (n : Int) := by unfold wrap64; omega
    have h4 : (n : Int) > 0 := by omega
    obtain ⟨i0, hi0, hi1⟩ : ∃ i0, Try.prog.info? 47 = some i0 ∧ (i0.zero, i0.size, i0.bytes) = (some (.agg #[(.int .i64 0), (.int .i64 0)]), 2, 16) := by
      have := info47
      cases hc : Try.prog.info? 47 with
      | none => rw [hc] at this; cases this
      | some i0 => rw [hc] at this; exact ⟨i0, rfl, by simpa using this⟩
    simp only [Prod.mk.injEq] at hi1
    obtain ⟨z0, z1, z2⟩ := hi1
    have hrz : ∀ ty, (Builtin.append_ #[22, 3] ty #[.slice none 0 0, .int .i64 (n : Int)]).run Try.prog w = _ := fun ty =>
      Go.Lib.run_append_grow_zeros w 22 3 ty 47 i0 _ .i64 .i64 Try.underlying22 Try.underlying3 hi0 z0 none 0 0 [] (run_firstCells_none w.drew i0.size 0 0 0) n (by omega) (by omega) (by omega) (by omega) (by rw [z2]; omega) (growslice_fits (by omega) (by rw [z2]; omega))
    simp only [Nat.zero_add] at hrz
    have hGn : n ≤ grownCap w n 0 47 := grownCap_ge w _ _ _
    have hGm : grownCap w n 0 47 ≤ maxLen := grownCap_le_maxLen w n 0 47 (by unfold maxLen; omega)
    generalize grownCap w n 0 47 = G at hrz hGn hGm
    have hzc : (Value.agg #[(.int .i64 0), (.int .i64 0)]).cells.size = 2 := rfl
    clear hi0 z0 z1 z2 hn hz
    have HG := Aside0.mk (And.intro hGn hGm)
    clear hGn hGm
    have h5 : wrap64 ((n : Int) - 0) = (n : Int) := by rw [Int.sub_zero]; exact h3
    rw [← h3] at hrz
    have h6 : decide (0 < n) = true := decide_eq_true (by omega)
    go_enter Try.func119, Try.ntmps119
    go_wp2_with (at_builtin; refine Go.Lib.wpList_append_run _ rfl _ _ _ _ rfl _ _ rfl rfl _ _ (hrz _) ?_)
    go_ret
    refine ⟨_, rfl, ⟨fun _ _ => trivial, [], ⟨rfl, .inr ⟨w.heap.size, G, _, rfl, Nat.le_refl _, heap_alloc_new _ _, Nat.zero_le _, HG.out.2, ?_, by simp⟩⟩, Reps.none _ _⟩, below_alloc (below_drew (Below.refl _ _)) _⟩
    have := HG.out.1
    first | rw [size_zeroCells, size_zeroCells] | simp only [Array.size_append, size_zeroCells]
    show n * 2 + (G - n) * 2 = G * 2
    omega

end Go.Proofs.Ytemoocoedibbpab.X

namespace Go.Proofs.Ytemoocoedibbpab.X
open Go.RowKit Go.Proofs.YtemoocoedibbpabW.PrintWords Go.Proofs.YtemoocoedibbpabW.PrintLast Go.Proofs.YtemoocoedibbpabW.PrintMore
attribute [local go_sem] max2_int min2_int max_two min_two max_three min_three max_four min_four
set_option linter.unusedVariables false
set_option linter.unusedSimpArgs false

/-- The row at a place of a row of rows. -/
def rdR {α : Type} (xs : List (List α)) (i : Int) : List α := xs.getD i.toNat []
theorem at_rows {α : Type} {ty : Nat} {d : Kd α} {w : World} {A : Option Addr} {n : Nat} {xs : List (List α)} (h : Kd.C (Kd.slice ty d) w A n xs) (i : Int) (h0 : 0 ≤ i) (h1 : i < n) :
    ∃ ad A0 c0, A = some ad ∧ w.cell? (ad.add i.toNat) = some (.slice A0 (rdR xs i).length c0) ∧ (rdR xs i).length ≤ c0 ∧ d.C w A0 (rdR xs i).length (rdR xs i) := by
  obtain ⟨ad, c, e, _, hK, hc0⟩ := Kd.C_get h ([] : List α) i h0 h1
  obtain ⟨A0, c0, rfl, hl, hr⟩ := hK
  have := hc0 0 _ rfl
  refine ⟨ad, A0, c0, e, ?_, hl, hr⟩
  have e1 : i.toNat * (Kd.slice ty d).sz + 0 = i.toNat := by show i.toNat * 1 + 0 = _; omega
  rw [e1] at this
  exact this
theorem rdR_get {α : Type} (xs : List (List α)) (k : Nat) (h : k < xs.length) : rdR xs (k : Int) = xs[k] := by simp [rdR, List.getD, h]
theorem flat_take {α : Type} (xs : List (List α)) (k : Nat) (h : k < xs.length) : (xs.take (k + 1)).flatten = (xs.take k).flatten ++ rdR xs (k : Int) := by
  rw [rdR_get xs k h, List.take_succ_eq_append_getElem h, List.flatten_append]
  simp only [List.flatten_cons, List.flatten_nil, List.append_nil]
theorem flat_le {α : Type} (xs : List (List α)) (k : Nat) : (xs.take k).flatten.length ≤ xs.flatten.length := by
  conv => rhs; rw [← List.take_append_drop k xs]
  rw [List.flatten_append, List.length_append]
  omega

end Go.Proofs.Ytemoocoedibbpab.X

namespace Go.Proofs.Ytemoocoedibbpab.X
open Go.RowKit Go.Proofs.YtemoocoedibbpabW.PrintWords Go.Proofs.YtemoocoedibbpabW.PrintLast Go.Proofs.YtemoocoedibbpabW.PrintMore
attribute [local go_sem] max2_int min2_int max_two min_two max_three min_three max_four min_four
set_option linter.unusedVariables false
set_option linter.unusedSimpArgs false

/-! ### Concat_Sign: function 73 -/
def Concat_Sign.f (l0 : List (List S47)) : Option (List S47) := if l0.flatten.length < 8796093022208 then some l0.flatten else none
set_option maxHeartbeats 8000000 in
set_option maxRecDepth 100000 in
theorem Concat_Sign.calls (A0 : Option Addr) (c0 : Nat) (l0 : List (List S47)) (r : List S47) (w : World) (hr0 : Kd.C (Kd.slice 47 k47) w A0 l0.length l0) (hc0 : l0.length ≤ c0) (h : Concat_Sign.f l0 = some r) :
  Calls Try.prog 73 #[.slice A0 l0.length c0] w fun e w' => ∃ v0_ : Value, e = .returned (v0_) ∧ Kd.R k47 47 w' w.heap.size (fun _ => True) v0_ r ∧ Below w.heap.size w w' := by
 have hn := hr0.2.1
 have HR := Aside0.mk hr0
 clear hr0 hc0
 unfold Concat_Sign.f at h
 by_cases hl : l0.flatten.length < 8796093022208
 ·rw [if_pos hl] at h
  obtain rfl := Option.some.inj h
  have HL := Aside0.mk hl
  have HN := Aside0.mk hn
  clear h hl
  go_enter Try.func73, Try.ntmps73
  go_wp2
  go_loopg [3, 11] l0.length (fun gg s3 s11 wr => ∃ kk m : Nat, kk ≤ l0.length ∧ l0.length - kk ≤ gg ∧ s11 = .int .i64 kk ∧ s3 = .int .i64 m ∧ Aside0 (m = (l0.take kk).flatten.length) ∧ w = wr)
  case atStart => exact ⟨0, 0, Nat.zero_le _, by omega, rfl, rfl, ⟨by simp⟩, rfl⟩
  case round =>
   obtain ⟨kk, m, hkk, hg, rfl, rfl, M, rfl⟩ := hrel
   by_cases hlt : kk < l0.length
   ·have hlt1 : decide ((kk : Int) < (l0.length : Int)) = true := decide_eq_true (by omega)
    have hlt2 : decide (kk < l0.length) = true := decide_eq_true hlt
    obtain ⟨ad, A1, c1, e, hx, hy, hz⟩ := at_rows HR.out (kk : Int) (by omega) (by omega)
    cases e
    simp only [Int.toNat_natCast] at hx
    have HF := Aside0.mk (flat_take l0 kk hlt)
    have q := flat_le l0 (kk + 1)
    rw [HF.out, List.length_append, ← M.out] at q
    have hw : wrap64 ((m : Int) + ((rdR l0 (kk : Int)).length : Int)) = ((m + (rdR l0 (kk : Int)).length : Nat) : Int) := by have := HL.out; unfold wrap64; omega
    have hm := Aside0.mk (show m + (rdR l0 (kk : Int)).length = (l0.take (kk + 1)).flatten.length by rw [HF.out, List.length_append, ← M.out])
    clear HF M
    generalize rdR l0 (kk : Int) = X at hx hy hz q hw hm
    generalize m + X.length = m2 at hw q hm
    have hneg : decide ((m2 : Int) < 0) = false := decide_eq_false (by omega)
    clear q hy hz
    go_wp2
    go_roundg (l0.length - (kk + 1))
    case measure => omega
    case rel => exact ⟨kk + 1, m2, by omega, by omega, by go_num, by first | rfl | (simp; done) | (simp [*]; done), hm, rfl⟩
   ·have hlt1 : decide ((kk : Int) < (l0.length : Int)) = false := decide_eq_false (by omega)
    have hlt2 : decide (kk < l0.length) = false := decide_eq_false hlt
    obtain rfl : kk = l0.length := by omega
    have hm := M.out
    rw [List.take_length] at hm
    have HM := Aside0.mk hm
    clear hm M hlt
    go_wp2_with fail
    refine (Grow_Sign.calls m w (by have := HL.out; have := HM.out; omega)).mono ?_
    rintro e w1 ⟨v, rfl, hro, hb⟩
    have HO := Aside0.mk hro
    have HB := Aside0.mk hb
    clear hro hb
    go_wp2
    go_loopg [6, 27] l0.length (fun gg s6 s27 wr => ∃ kk : Nat, kk ≤ l0.length ∧ l0.length - kk ≤ gg ∧ s27 = .int .i64 kk ∧ Aside0 (Kd.R k47 47 wr w.heap.size (fun _ => True) s6 (l0.take kk).flatten) ∧ Aside0 (Below w.heap.size w wr))
    case atStart => exact ⟨0, Nat.zero_le _, by omega, rfl, ⟨by simpa using HO.out⟩, HB⟩
    case round =>
     clear HO HB
     obtain ⟨kk, hkk, hg, rfl, HO, HB⟩ := hrel
     by_cases hlt : kk < l0.length
     ·have hlt1 : decide ((kk : Int) < (l0.length : Int)) = true := decide_eq_true (by omega)
      have hlt2 : decide (kk < l0.length) = true := decide_eq_true hlt
      obtain ⟨ad, A1, c1, e, hx, hy, hz⟩ := at_rows (Kd.C_below HR.out HB.out) (kk : Int) (by omega) (by omega)
      cases e
      simp only [Int.toNat_natCast] at hx
      have HF := Aside0.mk (flat_take l0 kk hlt)
      have q := flat_le l0 (kk + 1)
      rw [HF.out, List.length_append] at q
      have HQ := Aside0.mk (Nat.lt_of_le_of_lt q HL.out)
      generalize rdR l0 (kk : Int) = X at hx hy hz HF HQ
      have HZ := Aside0.mk hz
      clear q hy hz
      go_wp2_with ((with_reducible refine gate_builtin (b := .append) (xs := #[.tmp 31, .tmp 32]) rfl ?_); at_builtin; refine Kd.R_append_rows k47 (w0 := w) w.heap.size rfl (.tmp 31) (.tmp 32) 22 47 (.agg #[(.int .i64 0), (.int .i64 0)]) 16 rfl Try.underlying22 info47 rfl (by decide) (by omega) u6 (l0.take kk).flatten X A1 X.length c1 (fun _ => True) (fun _ => False) rfl rfl HO.out HZ.out (fun _ _ h => h) (fun _ h => h.elim) (fun _ _ => trivial) HB.out HB.out.size (by have := HQ.out; omega) ?_; intro v105 w7 ho hb hg hat; have HO2 := Aside0.mk ho; have HB2 := Aside0.mk hb; clear ho hb hg hat)
      rw [← HF.out] at HO2
      go_roundg (l0.length - (kk + 1))
      case measure => omega
      case rel => exact ⟨kk + 1, by omega, by omega, by go_num, HO2, HB2⟩
     ·have hlt1 : decide ((kk : Int) < (l0.length : Int)) = false := decide_eq_false (by omega)
      have hlt2 : decide (kk < l0.length) = false := decide_eq_false hlt
      obtain rfl : kk = l0.length := by omega
      go_wp2
      go_ret
      exact ⟨_, rfl, by simpa using HO.out, HB.out⟩
 ·rw [if_neg hl] at h
  cases h

end Go.Proofs.Ytemoocoedibbpab.X
