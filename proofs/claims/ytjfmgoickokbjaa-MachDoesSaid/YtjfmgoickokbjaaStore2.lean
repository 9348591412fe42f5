/-
  A guarded load of a whole value.
-/
import Derived.Test.YtjfmgoickokbjaaStore
namespace Go.Proofs.Ytjfmgoickokbjaa
open Go.RowKit
section
variable {P : Program} {ops : Array Oper} {rest : List Oper} {o : Oper} {a : Act} {Q : Exit → Act → World → Prop}
theorem wpList_loadAllW (w : World) (hw : Region.wanted o (yielded ops a.tmps) = true) (ty : TypeId) (x : Operand) (ho : o.op = .load ty x) (g : Nat) (te : TypeId) (cells : Array Value) (hb : Blk w g te cells) (d : TypeDesc)
    (hx : a.eval x = .pointer (some ⟨g, 0, none⟩)) (hu : P.underlying ty = some d) (hd : (match d with | .struct _ | .array _ _ => true | _ => false) = true) (hi : (P.info? ty).map (·.size) = some cells.size)
    (h : wpList P ops Q rest (a.put o.dst (.agg cells)) w) : wpList P ops Q (o :: rest) a w :=
  wpList_step fun K hK => by
    rw [if_pos hw]
    exact wp_load_row ty x ho g hx te cells (0, 0) d hb hu hd hi (hK _ _ h)
/-- a struct literal -/
theorem wpList_buildV (w : World) (hw : Region.wanted o (yielded ops a.tmps) = true) {ty : TypeId} {parts : Array (Nat × Operand)} {X : Value} (vs : Array (Nat × Value)) (ho : o.op = .build ty parts) (he : (parts.map fun (i, x) => (i, a.eval x)) = vs)
    (hr : (Instr.build ty vs).run P w = .ok X w) (h : wpList P ops Q rest (a.put o.dst X) w) : wpList P ops Q (o :: rest) a w :=
  wpList_step fun K hK => by
    rw [if_pos hw]
    subst he
    unfold Oper.wp
    simp only [execOp, ho, Sem.run_bind, hr, Result.andThen_ok]
    exact hK _ _ h
/-- == on whole values -/
theorem wpList_eql (w : World) (hw : Region.wanted o (yielded ops a.tmps) = true) {t t' : TypeId} {x y : Operand} (ho : o.op = .binOp .eql t x y t') {xs ys : Array Value} {r : Bool} (hx : a.eval x = .agg xs) (hy : a.eval y = .agg ys)
    (hm : P.eqGuardType P.depth t = false) (hr : (binOp .eql t (.agg xs) (.agg ys)).run P w = .ok (.bool r) w) (h : wpList P ops Q rest (a.put o.dst (.bool r)) w) : wpList P ops Q (o :: rest) a w :=
  wpList_step fun K hK => by
    rw [if_pos hw]
    unfold Oper.wp execOp
    simp only [ho, hx, hy, Sem.run_bind, run_eqGuard_agg w .eql t x y xs ys hm, Result.andThen_ok, hr]
    exact hK _ _ h
theorem wpList_neq (w : World) (hw : Region.wanted o (yielded ops a.tmps) = true) {t t' : TypeId} {x y : Operand} (ho : o.op = .binOp .neq t x y t') {xs ys : Array Value} {r : Bool} (hx : a.eval x = .agg xs) (hy : a.eval y = .agg ys)
    (hm : P.eqGuardType P.depth t = false) (hr : (binOp .neq t (.agg xs) (.agg ys)).run P w = .ok (.bool r) w) (h : wpList P ops Q rest (a.put o.dst (.bool r)) w) : wpList P ops Q (o :: rest) a w :=
  wpList_step fun K hK => by
    rw [if_pos hw]
    unfold Oper.wp execOp
    simp only [ho, hx, hy, Sem.run_bind, run_eqGuard_agg w .neq t x y xs ys hm, Result.andThen_ok, hr]
    exact hK _ _ h
end
section
variable {P : Program} {ops : Array Oper} {rest : List Oper} {a : Act} {w : World} {Q : Exit → Act → World → Prop} {dst : Option Tmp} {ty : TypeId} {pos : String} {aft : Array Edge} {gd : Option (Nat × Bool)}
theorem at_build (t : TypeId) {parts : Array (Nat × Operand)} (h : wpList P ops Q (⟨dst, .build t parts, ty, pos, aft, gd⟩ :: rest) a w) : wpList P ops Q (⟨dst, .build t parts, ty, pos, aft, gd⟩ :: rest) a w := h
theorem at_binT (s : TypeId) {b : BinOp} {d : TypeId} {x y : Operand} (h : wpList P ops Q (⟨dst, .binOp b s x y d, ty, pos, aft, gd⟩ :: rest) a w) : wpList P ops Q (⟨dst, .binOp b s x y d, ty, pos, aft, gd⟩ :: rest) a w := h
end
end Go.Proofs.Ytjfmgoickokbjaa
