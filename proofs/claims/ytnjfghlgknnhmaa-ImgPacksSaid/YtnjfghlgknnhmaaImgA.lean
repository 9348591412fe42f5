/-
  Walks: whether a text is a name (cfg.Name, portreeveref14.Name).
-/
import Derived.Test.YtnjfghlgknnhmaaStore
import Derived.Lib.ConvBytes
namespace Go.Proofs.Ytnjfghlgknnhmaa
open Go.RowKit

def nmB (c : UInt8) : Bool := decide ((97 ≤ c.toNat ∧ c.toNat ≤ 122) ∨ (48 ≤ c.toNat ∧ c.toNat ≤ 57) ∨ c.toNat = 45)
def nmOk (l : List UInt8) : Bool := l.all nmB && decide (1 ≤ l.length) && decide (l.length ≤ 16)
theorem nm_class (c : UInt8) : (97 ≤ (c.toNat : Int) ∧ (c.toNat : Int) ≤ 122 ∧ nmB c = true) ∨ (122 < (c.toNat : Int) ∧ nmB c = false) ∨ (57 < (c.toNat : Int) ∧ (c.toNat : Int) < 97 ∧ nmB c = false) ∨
    (48 ≤ (c.toNat : Int) ∧ (c.toNat : Int) ≤ 57 ∧ nmB c = true) ∨ ((c.toNat : Int) = 45 ∧ nmB c = true) ∨ ((c.toNat : Int) < 48 ∧ (c.toNat : Int) ≠ 45 ∧ nmB c = false) := by
  unfold nmB
  simp only [decide_eq_true_eq, decide_eq_false_iff_not]
  omega
theorem all_take (l : List UInt8) (k : Nat) (h : k < l.length) (c : UInt8) (hc : l[k]? = some c) : (l.take (k + 1)).all nmB = ((l.take k).all nmB && nmB c) := by
  rw [List.take_succ_eq_append_getElem h, List.all_append]
  rw [List.getElem?_eq_getElem h] at hc
  cases hc
  simp
theorem all_no (l : List UInt8) (k : Nat) (c : UInt8) (hc : l[k]? = some c) (h : nmB c = false) : nmOk l = false := by
  have : l.all nmB = false := by
    rw [List.all_eq_false]
    exact ⟨c, List.mem_of_getElem? hc, by simp [h]⟩
  simp [nmOk, this]
theorem addr_lit0 (g k : Nat) : (⟨g, 0, none⟩ : Addr).add k = ⟨g, k, none⟩ := by unfold Addr.add; split <;> simp_all
theorem run_bytes (w : World) {src dst e : TypeId} (l : List UInt8) (hs : Try.prog.underlying src = some .string) (hd : Try.prog.underlying dst = some (.slice e)) (he : Try.prog.underlying e = some (.int .u8)) :
    ∃ c W, (convert src dst (.string ⟨l.toArray⟩)).run Try.prog w = .ok (.slice (some ⟨w.heap.size, 0, none⟩) l.length c) W ∧ Rd W W.heap.size 1 (some ⟨w.heap.size, 0, none⟩) l.length (bcells l) ∧ Below w.heap.size w W := by
  refine ⟨_, _, Lib.run_convert_string_bytes w src dst e ⟨l.toArray⟩ hs hd he, ⟨by simp [bcells], fun k v hv => ?_⟩, ?_⟩
  · have hk := (List.getElem?_eq_some_iff.1 hv).1
    rw [bcells_length] at hk
    refine ⟨_, rfl, by rw [Lib.bytesWorld_size]; exact Nat.lt_succ_self _, ?_⟩
    rw [addr_lit0]
    rw [Lib.bytesWorld_cell w e ⟨l.toArray⟩ k (by exact hk)]
    rw [bcells_get l k hk] at hv
    rw [← hv]
    simp [List.getD]
  · exact ⟨rfl, rfl, rfl, by rw [Lib.bytesWorld_size]; omega, fun j hj => Lib.bytesWorld_at_old w e _ j hj⟩
section
variable {P : Program} {ops : Array Oper} {rest : List Oper} {o : Oper} {a : Act} {Q : Exit → Act → World → Prop}
theorem wpList_convV (w : World) {src dst : TypeId} (hgd : o.guard = none) (x : Operand) (ho : o.op = .convert src dst x) (v X : Value) (w' : World) (hx : a.eval x = v) (hrun : (convert src dst v).run P w = .ok X w')
    (h : wpList P ops Q rest (a.put o.dst X) w') : wpList P ops Q (o :: rest) a w := by
  refine wpList_plain hgd fun K hK => ?_
  unfold Oper.wp
  simp [execOp, ho, hx, hrun, Result.andThen]
  exact hK _ _ h
end
end Go.Proofs.Ytnjfghlgknnhmaa
