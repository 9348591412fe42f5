/-
  Parts: ImgA ImgB ImgC ImgD ImgE ImgF ImgG ImgH ImgI ImgJ ImgK ImgL ImgM ImgN ImgO.
-/
import Derived.Test.YtipdmhppadapkaaGreatDoorBA
import Derived.Lib.ConvBytes
import Derived.Test.YtipdmhppadapkaaGreatDoorBX
import Derived.Lib.LazyBuf
/-
  Walks: whether a text is a name (cfg.Name, portreeveref14.Name).
-/
namespace Go.Proofs.YtipdmhppadapkaaGreatDoor
open Go.RowKit

def nmB (c : UInt8) : Bool := decide ((97 ≤ c.toNat ∧ c.toNat ≤ 122) ∨ (48 ≤ c.toNat ∧ c.toNat ≤ 57) ∨ c.toNat = 45)
def nmOk (l : List UInt8) : Bool := l.all nmB && decide (1 ≤ l.length) && decide (l.length ≤ 16)
theorem nm_class (c : UInt8) : (97 ≤ (c.toNat : Int) ∧ (c.toNat : Int) ≤ 122 ∧ nmB c = true) ∨ (122 < (c.toNat : Int) ∧ nmB c = false) ∨ (57 < (c.toNat : Int) ∧ (c.toNat : Int) < 97 ∧ nmB c = false) ∨
    (48 ≤ (c.toNat : Int) ∧ (c.toNat : Int) ≤ 57 ∧ nmB c = true) ∨ ((c.toNat : Int) = 45 ∧ nmB c = true) ∨ ((c.toNat : Int) < 48 ∧ (c.toNat : Int) ≠ 45 ∧ nmB c = false) := by
  unfold nmB
  simp only [decide_eq_true_eq, decide_eq_false_iff_not]
  omega
theorem all_take (l : List UInt8) (k : Nat) (h : k < l.length) (c : UInt8) (hc : l[k]? = some c) : (l.take (k + 1)).all nmB = ((l.take k).all nmB && nmB c) := by
  rw [List.take_succ_eq_append_getElem h, List.all_append]
  rw [List.getElem?_eq_getElem h] at hc
  cases hc
  simp
theorem all_no (l : List UInt8) (k : Nat) (c : UInt8) (hc : l[k]? = some c) (h : nmB c = false) : nmOk l = false := by
  have : l.all nmB = false := by
    rw [List.all_eq_false]
    exact ⟨c, List.mem_of_getElem? hc, by simp [h]⟩
  simp [nmOk, this]
theorem addr_lit0 (g k : Nat) : (⟨g, 0, none⟩ : Addr).add k = ⟨g, k, none⟩ := by unfold Addr.add; split <;> simp_all
theorem run_bytes (w : World) {src dst e : TypeId} (l : List UInt8) (hs : Tryz.prog.underlying src = some .string) (hd : Tryz.prog.underlying dst = some (.slice e)) (he : Tryz.prog.underlying e = some (.int .u8)) :
    ∃ c W, (convert src dst (.string ⟨l.toArray⟩)).run Tryz.prog w = .ok (.slice (some ⟨w.heap.size, 0, none⟩) l.length c) W ∧ Rd W W.heap.size 1 (some ⟨w.heap.size, 0, none⟩) l.length (bcells l) ∧ Below w.heap.size w W := by
  refine ⟨_, _, Lib.run_convert_string_bytes w src dst e ⟨l.toArray⟩ hs hd he, ⟨by simp [bcells], fun k v hv => ?_⟩, ?_⟩
  · have hk := (List.getElem?_eq_some_iff.1 hv).1
    rw [bcells_length] at hk
    refine ⟨_, rfl, by rw [Lib.bytesWorld_size]; exact Nat.lt_succ_self _, ?_⟩
    rw [addr_lit0]
    rw [Lib.bytesWorld_cell w e ⟨l.toArray⟩ k (by exact hk)]
    rw [bcells_get l k hk] at hv
    rw [← hv]
    simp [List.getD]
  · exact ⟨rfl, rfl, rfl, by rw [Lib.bytesWorld_size]; omega, fun j hj => Lib.bytesWorld_at_old w e _ j hj⟩
section
variable {P : Program} {ops : Array Oper} {rest : List Oper} {o : Oper} {a : Act} {Q : Exit → Act → World → Prop}
theorem wpList_convV (w : World) {src dst : TypeId} (hgd : o.guard = none) (x : Operand) (ho : o.op = .convert src dst x) (v X : Value) (w' : World) (hx : a.eval x = v) (hrun : (convert src dst v).run P w = .ok X w')
    (h : wpList P ops Q rest (a.put o.dst X) w') : wpList P ops Q (o :: rest) a w := by
  refine wpList_plain hgd fun K hK => ?_
  unfold Oper.wp
  simp [execOp, ho, hx, hrun, Result.andThen]
  exact hK _ _ h
end
end Go.Proofs.YtipdmhppadapkaaGreatDoor
/-
  Walks: cfg.Name and portreeveref14.Name: whether a text is a name.
-/
namespace Go.Proofs.YtipdmhppadapkaaGreatDoor
open Go.RowKit

theorem name_end (l : List UInt8) (h : (l.take l.length).all nmB = true) (b : Bool) (hb : b = (decide (1 ≤ l.length) && decide (l.length ≤ 16))) : nmOk l = b := by
  rw [List.take_length] at h
  rw [hb, nmOk, h]; simp

set_option maxRecDepth 100000 in
set_option maxHeartbeats 2000000 in
theorem mName_any (l : List UInt8) (hs : l.length ≤ 9223372036854775807) (w : World) :
    Calls Tryz.prog 167 #[.string ⟨l.toArray⟩] w fun e w' => e = .returned (.bool (nmOk l)) ∧ Below w.heap.size w w' := by
  obtain ⟨N, hN⟩ : ∃ N, N = nmOk l := ⟨_, rfl⟩
  rw [← hN]
  have HN := Lib.hid hN
  clear hN
  obtain ⟨c, W, hrun, hR, hB⟩ := run_bytes w (src := 9) (dst := 22) (e := 5) l Tryz.underlying9 Tryz.underlying22 Tryz.underlying5
  go_enter Tryz.func167, Tryz.ntmps167
  go_wp2_with ((with_reducible refine at_conv ?_); refine wpList_convV w rfl _ rfl _ _ _ rfl hrun ?_)
  go_loop [8] (fun i => ∃ k : Nat, k ≤ l.length ∧ i = .int .i64 k ∧ Hid ((l.take k).all nmB = true)) (fun i => l.length - (intOf i).toNat)
  case atStart => exact ⟨0, Nat.zero_le _, rfl, Lib.hid rfl⟩
  case round =>
    obtain ⟨k, hk, rfl, hall⟩ := hrel
    by_cases hlt : k < l.length
    · have hyes : Hid (nmB l[k] = true → (l.take (k + 1)).all nmB = true) := Lib.hid (fun h => by rw [all_take _ _ hlt _ (List.getElem?_eq_getElem hlt), hall.out, h]; rfl)
      have hno : Hid (nmB l[k] = false → N = false) := Lib.hid (fun h => by rw [HN.out]; exact all_no _ k _ (List.getElem?_eq_getElem hlt) h)
      have hc : W.cell? ⟨w.heap.size, k, none⟩ = some (.int .u8 (l[k].toNat : Int)) := by
        obtain ⟨a, ha, _, h⟩ := hR.cell k (.int .u8 (l[k].toNat : Int)) (by simp [bcells, hlt])
        cases ha; rw [addr_lit0] at h; exact h
      obtain ⟨cc, hcc⟩ : ∃ c, c = l[k] := ⟨_, rfl⟩
      rw [← hcc] at hc hyes hno
      have HCC := Lib.hid hcc
      clear hcc
      rcases nm_class cc with ⟨h1, h2, h3⟩ | ⟨h1, h3⟩ | ⟨h1, h2, h3⟩ | ⟨h1, h2, h3⟩ | ⟨h1, h3⟩ | ⟨h1, h2, h3⟩
      · have H3 := Lib.hid (hyes.out h3)
        clear h3 hyes hno
        go_wp2
        go_round
        case rel => exact ⟨k + 1, by omega, by go_num, H3⟩
        case measure => simp [intOf]; omega
      · have H3 := Lib.hid (hno.out h3)
        clear h3 hyes hno
        have d1 : decide ((cc.toNat : Int) ≤ 122) = false := by simp; omega
        have d2 : decide ((cc.toNat : Int) ≤ 57) = false := by simp; omega
        have e1 : (((cc.toNat : Nat) : Int) == 45) = false := by simp; omega
        have e2 : (((cc.toNat : Nat) : Int) != 45) = true := by simp; omega
        go_wp2
        go_ret
        exact ⟨by rw [H3.out]; rfl, hB⟩
      · have H3 := Lib.hid (hno.out h3)
        clear h3 hyes hno
        have d2 : decide ((cc.toNat : Int) ≤ 57) = false := by simp; omega
        have e1 : (((cc.toNat : Nat) : Int) == 45) = false := by simp; omega
        have e2 : (((cc.toNat : Nat) : Int) != 45) = true := by simp; omega
        go_wp2
        go_ret
        exact ⟨by rw [H3.out]; rfl, hB⟩
      · have H3 := Lib.hid (hyes.out h3)
        clear h3 hyes hno
        go_wp2
        go_round
        case rel => exact ⟨k + 1, by omega, by go_num, H3⟩
        case measure => simp [intOf]; omega
      · have H3 := Lib.hid (hyes.out h3)
        clear h3 hyes hno
        go_wp2
        go_round
        case rel => exact ⟨k + 1, by omega, by go_num, H3⟩
        case measure => simp [intOf]; omega
      · have H3 := Lib.hid (hno.out h3)
        clear h3 hyes hno
        have e1 : (((cc.toNat : Nat) : Int) == 45) = false := by simp; omega
        have e2 : (((cc.toNat : Nat) : Int) != 45) = true := by simp; omega
        go_wp2
        go_ret
        exact ⟨by rw [H3.out]; rfl, hB⟩
    · obtain rfl : k = l.length := by omega
      have HEh : Hid (∀ b : Bool, b = (decide (1 ≤ l.length) && decide (l.length ≤ 16)) → N = b) := Lib.hid fun b hb => by rw [HN.out]; exact name_end l hall.out b hb
      clear hall
      by_cases h0 : 1 ≤ l.length
      · have he : l.isEmpty = false := by cases l; simp at h0; rfl
        have he2 : l ≠ [] := by rintro rfl; simp at h0
        by_cases h16 : l.length ≤ 16
        · have hd : decide ((l.length : Int) ≤ 16) = true := by simp; omega
          go_wp2
          go_ret
          exact ⟨by rw [HEh.out true (by simp; omega)]; first | done | rfl, hB⟩
        · have hd : decide ((l.length : Int) ≤ 16) = false := by simp; omega
          go_wp2
          go_ret
          exact ⟨by rw [HEh.out false (by simp; omega)]; first | done | rfl, hB⟩
      · have he : l = [] := by cases l; rfl; simp at h0
        subst he
        go_wp2
        go_ret
        exact ⟨by rw [HEh.out false rfl]; first | done | rfl, hB⟩
end Go.Proofs.YtipdmhppadapkaaGreatDoor
/-
  An image's header in memory and as bytes; walks: img.written, img.Put.
-/
namespace Go.Proofs.YtipdmhppadapkaaGreatDoor
open Go.RowKit

structure Hd where
  ver : Nat
  size : Nat
  name : List UInt8
  dig : List UInt8
structure Hd.ok (h : Hd) : Prop where
  ver : h.ver < 4294967296
  size : h.size < 4294967296
  name : h.name.length ≤ 9223372036854775807
  dig : h.dig.length = 32
def hdCells (h : Hd) : List Value := .int .u32 (h.ver : Int) :: .int .u32 (h.size : Int) :: .string ⟨h.name.toArray⟩ :: bcells h.dig
theorem hdCells_length (h : Hd) (hd : h.dig.length = 32) : (hdCells h).length = 35 := by simp [hdCells, bcells_length, hd]
theorem hdCells_one (h : Hd) : ∀ v ∈ (hdCells h).toArray.toList, v.oneCell' = true := by
  intro v hv
  simp only [hdCells, List.mem_cons] at hv
  rcases hv with rfl | rfl | rfl | hv
  · rfl
  · rfl
  · rfl
  · exact bcells_one _ v hv
def pad16 (s : List UInt8) : List UInt8 := s ++ List.replicate (16 - s.length) 0
theorem pad16_length (s : List UInt8) (h : s.length ≤ 16) : (pad16 s).length = 16 := by simp [pad16]; omega
def hdBytes (h : Hd) : List UInt8 := putAll [1112100167, h.ver, h.size, 0] 4 false ++ (pad16 h.name ++ h.dig)
theorem hd_dig {w : World} {g : Nat} {t : TypeId} {h : Hd} (hb : Blk w g t (hdCells h).toArray) (hd : h.dig.length = 32) : Rd w w.heap.size 1 (some ⟨g, 3, none⟩) 32 (bcells h.dig) := by
  refine ⟨by rw [bcells_length, hd], fun k v hv => ⟨_, rfl, hb.lt, ?_⟩⟩
  rw [Addr.add_mid, hb.cell, Nat.add_comm 3 k]
  simp only [hdCells, List.getElem?_toArray, List.getElem?_cons_succ]
  exact hv
def z16 : Array Value := (bcells (List.replicate 16 0)).toArray
def zhd : Hd := ⟨0, 0, [], List.replicate 32 0⟩
def zhead : Array Value := (hdCells zhd ++ [Value.slice none 0 0]).toArray
theorem zero16 (w : World) : (zeroValue 256).run Tryz.prog w = .ok (.agg z16) w := by kernel_rfl
theorem zeroHd (w : World) : (zeroValue 51).run Tryz.prog w = .ok (.agg (hdCells zhd).toArray) w := by kernel_rfl
theorem zeroHead (w : World) : (zeroValue 245).run Tryz.prog w = .ok (.agg zhead) w := by kernel_rfl
attribute [go_sem] zero16 zeroHd zeroHead
theorem copy_splice (name : List UInt8) (h : name.length ≤ 16) : splice (bcells (List.replicate 16 0)) 0 (bcells name) = bcells (pad16 name) := by
  have e : List.replicate 16 (0 : UInt8) = List.replicate name.length 0 ++ List.replicate (16 - name.length) 0 := by
    rw [List.replicate_append_replicate]; congr 1; omega
  rw [splice, e, bcells_append, pad16, bcells_append, List.take_zero, List.nil_append, Nat.zero_add, List.drop_left' (by simp [bcells_length])]
theorem run_copyName (w : World) (ty : TypeId) (g : Nat) (name : List UInt8) (h : name.length ≤ 16) (hb : Blk w g 256 z16) :
    ∃ W, (Builtin.copy_ #[22, 9] ty #[.slice (some ⟨g, 0, none⟩) 16 16, .string ⟨name.toArray⟩]).run Tryz.prog w = .ok (goInt name.length) W ∧ Blk W g 256 (bcells (pad16 name)).toArray ∧ w.grownBy W (some g) := by
  have hs : z16.size = 16 := by simp [z16, bcells_length]
  have hcell : ∀ j, j < name.length → (w.cell? ⟨g, 0 + j, none⟩).isSome = true ∧ w.frozen? ⟨g, 0 + j, none⟩ = false := fun j hj => by
    rw [Nat.zero_add, hb.cell, Array.getElem?_eq_getElem (by omega)]; exact ⟨rfl, hb.frozen j⟩
  refine ⟨_, run_copy_string (P := Tryz.prog) w 22 9 ty 5 g 0 16 16 ⟨name.toArray⟩ Tryz.underlying22 (fun _ => by kernel_rfl) (by exact h) (fun j hj => (hcell j hj).1) (fun j hj => (hcell j hj).2), ?_⟩
  obtain ⟨h1, h2, _⟩ := Blk.setCells (bcells name) 0 w z16 hb (by rw [bcells_length, hs]; omega)
  refine ⟨?_, h2⟩
  rw [show z16.toList = bcells (List.replicate 16 0) from rfl, copy_splice name h] at h1
  exact h1
section
variable {P : Program} {o : Oper} {a : Act} {w w' : World}
theorem reg_copy {x y : Tmp} {t t' : TypeId} {v u r : Value} (ho : o.op = .call { callee := .builtin .copy, args := #[.tmp x, .tmp y], argTypes := #[t, t'] }) (hx : a.tmps[x]?.getD undef = v) (hy : a.tmps[y]?.getD undef = u)
    (hr : (Builtin.copy_ #[t, t'] o.type #[v, u]).run P w = .ok r w') : (execOp a.eval o).run P w = .ok (.value r) w' := by
  simp [execOp, ho, Act.eval, hx, hy, resolve, invoke, builtin, hr]
end
theorem run_head (h : Hd) (hd : h.dig.length = 32) (A : Option Addr) (n c : Nat) (w : World) :
    (Instr.build 245 #[(0, .agg (hdCells h).toArray), (1, .slice A n c)]).run Tryz.prog w = .ok (.agg (hdCells h ++ [Value.slice A n c]).toArray) w := by
  have hl : (flat [.agg (hdCells h).toArray, .slice A n c]) = hdCells h ++ [Value.slice A n c] := by simp [flat, Value.cells]
  have hn : (hdCells h ++ [Value.slice A n c]).length = 36 := by simp [hdCells_length h hd]
  have := run_build_rows (P := Tryz.prog) w (t := 245) (z := zhead) #[(0, .agg (hdCells h).toArray), (1, .slice A n c)] [.agg (hdCells h).toArray, .slice A n c] [(0, 35), (35, 1)]
    Tryz.underlying245 (by kernel_rfl) (by kernel_rfl) rfl (by simp [Rows1, Value.cells, hdCells_length h hd]) (by rw [hl, hn]; exact of_decide_eq_true (by kernel_rfl))
  rw [hl, hn] at this
  rw [this]
  have e : zhead.toList.drop 36 = [] := by kernel_rfl
  rw [e, List.append_nil]

theorem run_build4 (w : World) (a b : Nat) : (Instr.buildSlice 29 4 #[(0, .int .u32 1112100167), (1, .int .u32 (a : Int)), (2, .int .u32 (b : Int)), (3, .int .u32 0)]).run Tryz.prog w = .ok (.slice (some ⟨w.heap.size, 0, none⟩) 4 4) (w.alloc (.cells (([1112100167, a, b, 0].map fun (x : Nat) => Value.int .u32 (x : Int))).toArray 23)) := by
  go_simp
theorem blkI1 (w : World) (o : Obj) (t : TypeId) (cs : Array Value) : Blk ((w.alloc o).alloc (.cells cs t)) (w.heap.size + 1) t cs := by
  have := Blk.new (w.alloc o) t cs
  rwa [World.size_alloc] at this
theorem blkI2 (w : World) (o o2 : Obj) (t : TypeId) (cs : Array Value) : Blk (((w.alloc o).alloc o2).alloc (.cells cs t)) (w.heap.size + 2) t cs := by
  have := Blk.new ((w.alloc o).alloc o2) t cs
  rwa [World.size_alloc, World.size_alloc] at this
theorem own_baseI {w : World} {base base' : Nat} {e : TypeId} {size : Nat} {v : Value} {n : Nat} {xs : List Value} (h : w.ownsRow base e size v n xs) (hb : base' ≤ base) : w.ownsRow base' e size v n xs := by
  refine ⟨h.1, ?_⟩
  rcases h.2 with h2 | ⟨g, cap, cur, rfl, h3, h4⟩
  · exact .inl h2
  · exact .inr ⟨g, cap, cur, rfl, Nat.le_trans hb h3, h4⟩
theorem inf_hd : (Tryz.prog.info? 51).map (·.size) = some 35 := by kernel_rfl
theorem headCells_one (h : Hd) (A : Option Addr) (n c : Nat) : ∀ v ∈ (hdCells h ++ [Value.slice A n c]).toArray.toList, v.oneCell' = true := by
  intro v hv
  simp only [List.mem_append, List.mem_singleton] at hv
  rcases hv with hv | rfl
  · exact hdCells_one h v (by simpa using hv)
  · rfl

set_option maxRecDepth 100000 in
set_option maxHeartbeats 4000000 in
theorem written_any (h : Hd) (ok : h.ok) (h16 : h.name.length ≤ 16) (w : World) :
    Calls Tryz.prog 168 #[.agg (hdCells h).toArray] w fun e w' => ∃ A c, e = .returned (.agg (hdCells h ++ [Value.slice A 64 c]).toArray) ∧ 64 ≤ c ∧ Rd w' w'.heap.size 1 A 64 (bcells (hdBytes h)) ∧ Below w.heap.size w w' := by
  have hdL := Lib.hid ok.dig
  have h35l := Lib.hid (hdCells_length h ok.dig)
  have h35 : Hid ((hdCells h).toArray.size = 35) := Lib.hid (by rw [List.size_toArray, h35l.out])
  have hz1 := zeroHead
  have hz2 := zero16
  have hbH := ((Blk.new w 51 (hdCells h).toArray).alloc (.cells zhead 245)).alloc (.cells z16 256)
  have hbZ := (blkI1 w (.cells (hdCells h).toArray 51) 245 zhead).alloc (.cells z16 256)
  have hbN := blkI2 w (.cells (hdCells h).toArray 51) (.cells zhead 245) 256 z16
  have B1 : Below w.heap.size w (((w.alloc (.cells (hdCells h).toArray 51)).alloc (.cells zhead 245)).alloc (.cells z16 256)) := (((Below.refl _ _).alloc (Nat.le_refl _) _).alloc (by simp) _).alloc (by simp; omega) _
  go_enter Tryz.func168, Tryz.ntmps168
  go_wp2_with fail
  generalize ((w.alloc (.cells (hdCells h).toArray 51)).alloc (.cells zhead 245)).alloc (.cells z16 256) = W1 at *
  have hN0 : w.heap.size + 2 ≤ W1.drew.heap.size := Nat.le_of_lt hbN.lt
  clear hz1 hz2
  refine Flow.wp_region_flow (w.heap.size + 2) [(3, fun b => b = w.heap.size + 2)] [(3, fun W => Blk W (w.heap.size + 2) 256 (z16))] (by kernel_rfl) (by kernel_rfl) hN0 (Flow.nz_cons (by rintro b rfl; exact Nat.le_refl _) Flow.nz_nil) (Flow.facts_cons (hbN.drew) (Flow.kept_blk id) (Flow.fz_cons (Flow.no_follow (by kernel_rfl)) Flow.fz_nil) Flow.facts_nil) ?_
  refine Flow.pass_val (.slice (some ⟨w.heap.size + 2, 0, none⟩) 16 16) (Flow.met_none rfl) (fun a W hH => ?_) ?_
  · have e0 := Flow.see_old 3 hH.sees (by kernel_rfl) (by kernel_rfl) rfl
    go_simp; first | done | rfl
  refine Flow.pass_val (.pointer (some ⟨w.heap.size, 2, none⟩)) (Flow.met_none rfl) (fun a W hH => ?_) ?_
  · have e0 := Flow.see_old 1 hH.sees (by kernel_rfl) (by kernel_rfl) rfl
    go_simp; first | done | rfl
  refine Flow.pass_val (.string ⟨h.name.toArray⟩) (Flow.met_none rfl) (fun a W hH => ?_) ?_
  · have e0 := Flow.see_new 5 1 hH.sees (by kernel_rfl) (by kernel_rfl) rfl rfl
    have cc : World.cell? W ⟨w.heap.size, 2, none⟩ = some (.string ⟨h.name.toArray⟩) := ((hbH.drew.below hH.below (by omega)).cell 2).trans rfl; go_simp
  refine Flow.pass_gen (fun _ W => Blk W (w.heap.size + 2) 256 (bcells (pad16 h.name)).toArray) (Flow.kept_of (fun _ _ _ c h => h.chg c id) (Flow.kz_cons (Flow.no_follow (by kernel_rfl)) Flow.kz_nil)) (Flow.met_none rfl) (fun a W hH => ?_) ?_
  · have e0 := Flow.see_new 4 0 hH.sees (by kernel_rfl) (by kernel_rfl) rfl rfl
    have e1 := Flow.see_new 6 2 hH.sees (by kernel_rfl) (by kernel_rfl) rfl rfl
    have fa0 : (fun W => Blk W (w.heap.size + 2) 256 (z16)) W := hH.fact _ (List.mem_of_getElem? (i := 0) rfl) rfl
    obtain ⟨W2, hrun, h2, hg⟩ := run_copyName W 3 (w.heap.size + 2) h.name h16 fa0
    refine Flow.wp_run (reg_copy rfl e0 e1 hrun) ?_
    exact ⟨_, rfl, Chg.grown hg (by rintro k h; cases h; rfl), h2⟩
  refine Flow.pass_end [none, none, none, none, some 4, some 5, some 6, some 7, none, none, none, none, none, none, none, none, none, none, none, none, none] (by kernel_rfl) ?_
  intro f gg w9 hB hfa hT hfg
  have hbN2 := hT 3 _ (by kernel_rfl) rfl
  have hbH := hbH.drew.below hB (by omega)
  have hbZ := hbZ.drew.below hB (by omega)
  have B2 := B1.drew.trans (hB.mono (by omega))
  simp only [Reg.sel]
  clear hT hfg hfa hB hbN hN0 B1
  have hbN := hbN2
  clear hbN2
  generalize w9 = W2 at *
  go_wp2_with fail
  have hN1 : w.heap.size + 1 ≤ W2.drew.heap.size := Nat.le_of_lt hbZ.lt
  refine Flow.wp_region_flow (w.heap.size + 1) [(13, fun b => b = w.heap.size + 1)] [(13, fun W => Blk W (w.heap.size + 1) 245 (zhead)), (11, fun W => Blk W (w.heap.size + 2) 256 ((bcells (pad16 h.name)).toArray))] (by kernel_rfl) (by kernel_rfl) hN1 (Flow.nz_cons (by rintro b rfl; exact Nat.le_refl _) Flow.nz_nil) (Flow.facts_cons (hbZ.drew) (Flow.kept_blk id) (Flow.fz_cons (Flow.no_follow (by kernel_rfl)) Flow.fz_nil) (Flow.facts_cons (hbN.drew) (Flow.kept_blk id) (Flow.fz_cons (Flow.no_follow (by kernel_rfl)) Flow.fz_nil) Flow.facts_nil)) ?_
  refine Flow.pass_val (.agg (hdCells h).toArray) (Flow.met_none rfl) (fun a W hH => ?_) ?_
  · have e0 := Flow.see_old 1 hH.sees (by kernel_rfl) (by kernel_rfl) rfl
    exact reg_load 51 _ rfl e0 (hbH.drew.below hH.below (by omega)) Tryz.underlying51 rfl (by rw [h35.out]; exact inf_hd)
  refine Flow.pass_val (.pointer (some ⟨w.heap.size, 0, none⟩)) (Flow.met_none rfl) (fun a W hH => ?_) ?_
  · have e0 := Flow.see_old 1 hH.sees (by kernel_rfl) (by kernel_rfl) rfl
    go_simp; first | done | rfl
  refine Flow.pass_val (.int .u32 (h.ver : Int)) (Flow.met_none rfl) (fun a W hH => ?_) ?_
  · have e0 := Flow.see_new 9 1 hH.sees (by kernel_rfl) (by kernel_rfl) rfl rfl
    have cc : World.cell? W ⟨w.heap.size, 0, none⟩ = some (.int .u32 (h.ver : Int)) := ((hbH.drew.below hH.below (by omega)).cell 0).trans rfl; go_simp
  refine Flow.pass_val (.pointer (some ⟨w.heap.size, 1, none⟩)) (Flow.met_none rfl) (fun a W hH => ?_) ?_
  · have e0 := Flow.see_old 1 hH.sees (by kernel_rfl) (by kernel_rfl) rfl
    go_simp; first | done | rfl
  refine Flow.pass_val (.int .u32 (h.size : Int)) (Flow.met_none rfl) (fun a W hH => ?_) ?_
  · have e0 := Flow.see_new 11 3 hH.sees (by kernel_rfl) (by kernel_rfl) rfl rfl
    have cc : World.cell? W ⟨w.heap.size, 1, none⟩ = some (.int .u32 (h.size : Int)) := ((hbH.drew.below hH.below (by omega)).cell 1).trans rfl; go_simp
  refine Flow.pass_lin [13] (fun v W => ∃ b, v = .slice (some ⟨b, 0, none⟩) 4 4 ∧ Blk W b 23 (([1112100167, h.ver, h.size, 0].map fun (x : Nat) => Value.int .u32 (x : Int))).toArray) (Flow.kept_lin [13] (fun _ _ _ c ⟨b, h1, h2⟩ => ⟨b, h1, h2.ext c.ext⟩) (Flow.lz_cons (fun _ => .inl rfl) Flow.lz_nil)) (Flow.met_none rfl) (fun a W hH => ?_) ?_
  · have e0 := Flow.see_new 10 2 hH.sees (by kernel_rfl) (by kernel_rfl) rfl rfl
    have e1 := Flow.see_new 12 4 hH.sees (by kernel_rfl) (by kernel_rfl) rfl rfl
    refine Flow.wp_run (Flow.reg_buildSlice _ rfl (by simp [Act.eval, e0, e1]) (run_build4 W h.ver h.size)) ?_
    exact ⟨_, rfl, Chg.of_ext ((Ext.refl W).alloc _), W.heap.size, rfl, Blk.new _ _ _⟩
  refine Flow.pass_lin [13] (Flow.bytesC (0 + 4 * 4) ([] ++ putAll [1112100167, h.ver, h.size, 0] 4 false)) (Flow.kept_lin [13] (Flow.kept_bytesC _ _) (Flow.lz_cons (fun _ => .inl rfl) Flow.lz_nil)) (Flow.met_none rfl) (fun a W hH => ?_) ?_
  · obtain ⟨b0, e0, q0⟩ := Flow.see_lin 13 5 hH.sees (by kernel_rfl) (by kernel_rfl) rfl rfl (by kernel_rfl)
    refine Flow.wp_callZ rfl Tryz.func120 rfl (by kernel_rfl) (by simp [Act.eval, e0]) (putBe32_any none 0 0 [] W (some ⟨b0, 0, none⟩) 4 4 [1112100167, h.ver, h.size, 0] (Rd.nil _ _ _ _) (by omega) (by simpa using q0.rd (size := 1) (n := 4) rfl) (by omega)) ?_
    rintro e w' ⟨A9, c9, rfl, hO, hB⟩
    exact ⟨_, rfl, Chg.of_ext hB, A9, c9, rfl, Flow.own_le hO, Rd.of_own hO⟩
  refine Flow.pass_val (.slice (some ⟨w.heap.size + 2, 0, none⟩) 16 16) (Flow.met_none rfl) (fun a W hH => ?_) ?_
  · have e0 := Flow.see_old 3 hH.sees (by kernel_rfl) (by kernel_rfl) rfl
    go_simp; first | done | rfl
  refine Flow.pass_val (.pointer (some ⟨w.heap.size, 3, none⟩)) (Flow.met_none rfl) (fun a W hH => ?_) ?_
  · have e0 := Flow.see_old 1 hH.sees (by kernel_rfl) (by kernel_rfl) rfl
    go_simp; first | done | rfl
  refine Flow.pass_val (.slice (some ⟨w.heap.size, 3, none⟩) 32 32) (Flow.met_none rfl) (fun a W hH => ?_) ?_
  · have e0 := Flow.see_new 16 8 hH.sees (by kernel_rfl) (by kernel_rfl) rfl rfl
    go_simp; first | done | rfl
  refine Flow.pass_lin [13] (fun v W => ∃ A c b, v = .slice (some ⟨b, 0, none⟩) 3 3 ∧ Blk W b 22 #[.slice A 16 c, .slice (some ⟨w.heap.size + 2, 0, none⟩) 16 16, .slice (some ⟨w.heap.size, 3, none⟩) 32 32] ∧ Rd W W.heap.size 1 A 16 (bcells (putAll [1112100167, h.ver, h.size, 0] 4 false))) (Flow.kept_lin [13] (fun _ _ _ c ⟨A, k, b, h1, h2, h3⟩ => ⟨A, k, b, h1, h2.ext c.ext, h3.ext c.ext⟩) (Flow.lz_cons (fun _ => .inl rfl) Flow.lz_nil)) (Flow.met_none rfl) (fun a W hH => ?_) ?_
  · obtain ⟨A0, c0, e0, q0⟩ := Flow.see_lin 14 6 hH.sees (by kernel_rfl) (by kernel_rfl) rfl rfl (by kernel_rfl)
    have e1 := Flow.see_new 15 7 hH.sees (by kernel_rfl) (by kernel_rfl) rfl rfl
    have e2 := Flow.see_new 17 9 hH.sees (by kernel_rfl) (by kernel_rfl) rfl rfl
    refine Flow.wp_run (Flow.reg_buildSlice _ rfl (by simp [Act.eval, e0, e1, e2]) (run_buildBB W A0 16 c0 (some ⟨w.heap.size + 2, 0, none⟩) 16 16 (some ⟨w.heap.size, 3, none⟩) 32 32)) ?_
    refine ⟨_, rfl, Chg.of_ext ((Ext.refl W).alloc _), A0, c0, W.heap.size, rfl, Blk.new _ _ _, ?_⟩
    have r0 := q0.2.ext ((Ext.refl W).alloc (.cells #[.slice A0 16 c0, .slice (some ⟨w.heap.size + 2, 0, none⟩) 16 16, .slice (some ⟨w.heap.size, 3, none⟩) 32 32] 22))
    rw [List.nil_append] at r0; exact r0
  refine Flow.pass_lin [13] (fun v W => ∃ A c, v = .slice A 64 c ∧ W.ownsRow (w.heap.size + 2) 5 1 (.slice A 64 c) 64 (bcells (hdBytes h))) (Flow.kept_lin [13] (fun _ _ _ c ⟨A, k, h1, h2⟩ => ⟨A, k, h1, own_chg h2 c (fun _ _ => id)⟩) (Flow.lz_cons (fun _ => .inl rfl) Flow.lz_nil)) (Flow.met_none rfl) (fun a W hH => ?_) ?_
  · obtain ⟨A0, c0, b0, e0, q0⟩ := Flow.see_lin 18 10 hH.sees (by kernel_rfl) (by kernel_rfl) rfl rfl (by kernel_rfl)
    have fa1 : (fun W => Blk W (w.heap.size + 2) 256 ((bcells (pad16 h.name)).toArray)) W := hH.fact _ (List.mem_of_getElem? (i := 1) rfl) rfl
    have hw2 : w.heap.size + 2 ≤ W.heap.size := Nat.le_of_lt fa1.lt
    refine Flow.wp_callZ rfl Tryz.func111 rfl (by kernel_rfl) (by simp [Act.eval, e0]) (cat_any (some ⟨b0, 0, none⟩) 3 3 [⟨A0, 16, c0, putAll [1112100167, h.ver, h.size, 0] 4 false⟩, ⟨(some ⟨w.heap.size + 2, 0, none⟩), 16, 16, pad16 h.name⟩, ⟨(some ⟨w.heap.size, 3, none⟩), 32, 32, h.dig⟩] W (q0.1.rd rfl) (by intro b hb; simp only [List.mem_cons, List.not_mem_nil, or_false] at hb; rcases hb with rfl | rfl | rfl <;> first | exact q0.2 | exact (fa1.rd (size := 1) (n := 16) (by rw [List.size_toArray, bcells_length, pad16_length _ h16])) | exact hd_dig (hbH.drew.below hH.below (by omega)) hdL.out) (by simp [Bs.tot]) (by omega)) ?_
    rintro e w' ⟨A9, c9, rfl, hO, hB⟩
    have hO1 : w'.ownsRow W.heap.size 5 1 (.slice A9 64 c9) 64 (bcells (hdBytes h)) := by simpa [Bs.tot, Bs.all, hdBytes] using hO
    exact ⟨_, rfl, Chg.of_ext hB, A9, c9, rfl, own_baseI hO1 hw2⟩
  refine Flow.pass_lin [13] (fun v W => ∃ A c, v = .agg (hdCells h ++ [Value.slice A 64 c]).toArray ∧ W.ownsRow (w.heap.size + 2) 5 1 (.slice A 64 c) 64 (bcells (hdBytes h))) (Flow.kept_lin [13] (fun _ _ _ c ⟨A, k, h1, h2⟩ => ⟨A, k, h1, own_chg h2 c (fun _ _ => id)⟩) (Flow.lz_cons (fun _ => .inl rfl) Flow.lz_nil)) (Flow.met_none rfl) (fun a W hH => ?_) ?_
  · have e0 := Flow.see_new 8 0 hH.sees (by kernel_rfl) (by kernel_rfl) rfl rfl
    obtain ⟨A1, c1, e1, q1⟩ := Flow.see_lin 19 11 hH.sees (by kernel_rfl) (by kernel_rfl) rfl rfl (by kernel_rfl)
    refine Flow.wp_run (Flow.reg_build _ rfl (by simp [Act.eval, e0, e1]) (run_head h hdL.out A1 64 c1 W)) ?_
    exact ⟨_, rfl, Chg.of_ext (Ext.refl W), A1, c1, rfl, q1⟩
  refine Flow.pass_list (fun _ W => ∃ A c, Blk W (w.heap.size + 1) 245 (hdCells h ++ [Value.slice A 64 c]).toArray ∧ W.ownsRow (w.heap.size + 2) 5 1 (.slice A 64 c) 64 (bcells (hdBytes h))) (Flow.kept_of (fun _ _ _ c ⟨A, k, h1, h2⟩ => ⟨A, k, h1.chg c id, own_chg h2 c (fun _ _ => id)⟩) (Flow.kz_cons (Flow.no_follow (by kernel_rfl)) Flow.kz_nil)) (Flow.met_none rfl) (fun a W hH => ?_) ?_
  · have e0 := Flow.see_old 2 hH.sees (by kernel_rfl) (by kernel_rfl) rfl
    obtain ⟨A1, c1, e1, q1⟩ := Flow.see_lin 20 12 hH.sees (by kernel_rfl) (by kernel_rfl) rfl rfl (by kernel_rfl)
    have fa0 : (fun W => Blk W (w.heap.size + 1) 245 (zhead)) W := hH.fact _ (List.mem_of_getElem? (i := 0) rfl) rfl
    refine wpList_storeAll W rfl 245 _ _ rfl (w.heap.size + 1) 245 _ (hdCells h ++ [Value.slice A1 64 c1]).toArray fa0 (by simpa [Act.eval] using e0) (by simpa [Act.eval] using e1) (by rw [List.size_toArray, List.length_append, h35l.out]; kernel_rfl) (by rw [List.size_toArray, List.length_append, h35l.out]; kernel_rfl) (headCells_one h A1 64 c1) ?_
    intro W2 h2 hg _
    exact Flow.qq_nil ⟨_, rfl, Chg.grown hg (by rintro k h; cases h; rfl), A1, c1, h2, own_chg q1 (Chg.grown (Z := fun b => b = w.heap.size + 1) hg (by rintro k h; cases h; rfl)) (fun k hk e => by have := (q1.lt k hk).1; have e2 : k = w.heap.size + 1 := e; omega)⟩
  refine Flow.pass_end [none, none, none, none, none, none, none, none, some 8, some 9, some 10, some 11, some 12, some 13, some 14, some 15, some 16, some 17, some 18, some 19, some 20] (by kernel_rfl) ?_
  intro f3 gg3 w9 hB hfa hT hfg
  obtain ⟨A, c, hb9, hO9⟩ := hT 13 _ (by kernel_rfl) rfl
  have B9 := B2.drew.trans (hB.mono (by omega))
  clear hT hfg hfa hB
  simp only [Reg.sel]
  go_wp2
  refine bodyPost_ret (results_cell_row rfl _ _ (w.heap.size + 1) _ _ _ _ rfl hb9 Tryz.underlying245 rfl (by rw [List.size_toArray, List.length_append, h35l.out]; kernel_rfl)) rfl ⟨A, c, rfl, Flow.own_le hO9, Rd.of_own hO9, B9⟩
end Go.Proofs.YtipdmhppadapkaaGreatDoor
/-
  Walks: img.Put; the reference's writer; portreeveref14.PutHeader.
-/
namespace Go.Proofs.YtipdmhppadapkaaGreatDoor
open Go.RowKit

def putHd (h : Hd) : List UInt8 := if nmOk h.name then hdBytes h else []
def putHdErr (h : Hd) : Int := if nmOk h.name then 0 else 150
theorem nmOk_le {s : List UInt8} (h : nmOk s = true) : s.length ≤ 16 := by simp [nmOk] at h; omega
theorem putAll_len4 (l : List Nat) : (putAll l 4 false).length = 4 * l.length := by
  induction l with
  | nil => rfl
  | cons x l ih => simp only [putAll, List.flatMap_cons, List.length_append, putNum_length, List.length_cons] at *; omega
theorem hdBytes_length (h : Hd) (hd : h.dig.length = 32) (h16 : h.name.length ≤ 16) : (hdBytes h).length = 64 := by
  simp only [hdBytes, List.length_append, putAll_len4, pad16_length _ h16, hd]; rfl
theorem run_fieldB (h : Hd) (hd : h.dig.length = 32) (A : Option Addr) (n c : Nat) (w : World) : (Instr.field 245 (.agg (hdCells h ++ [Value.slice A n c]).toArray) 1).run Tryz.prog w = .ok (.slice A n c) w := by
  have hc : (hdCells h ++ [Value.slice A n c])[35]? = some (.slice A n c) := by
    rw [List.getElem?_append_right (by rw [hdCells_length h hd]; omega), hdCells_length h hd]; rfl
  simp [Instr.field, run_underlying Tryz.underlying245, asAgg, part, isAgg, run_underlying Tryz.underlying22, hc]

set_option maxRecDepth 100000 in
set_option maxHeartbeats 2000000 in
theorem mPutH_any (h : Hd) (ok : h.ok) (w : World) :
    Calls Tryz.prog 139 #[.agg (hdCells h).toArray] w (BytesErr w (putHd h) (putHdErr h)) := by
  have hdL := Lib.hid ok.dig
  have h35 : Hid ((hdCells h).toArray.size = 35) := Lib.hid (by rw [List.size_toArray, hdCells_length h ok.dig])
  have hb := Blk.new w 51 (hdCells h).toArray
  have B1 : Below w.heap.size w (w.alloc (.cells (hdCells h).toArray 51)) := (Below.refl _ _).alloc (Nat.le_refl _) _
  have hc2 : (w.alloc (.cells (hdCells h).toArray 51)).cell? ⟨w.heap.size, 2, none⟩ = some (.string ⟨h.name.toArray⟩) := (hb.cell 2).trans rfl
  have hfld := run_fieldB h ok.dig
  go_enter Tryz.func139, Tryz.ntmps139
  go_wp2_with fail
  generalize w.alloc (.cells (hdCells h).toArray 51) = W1 at *
  refine (mName_any h.name ok.name W1).mono ?_
  rintro e W2 ⟨rfl, hB2⟩
  have hb2 := hb.below hB2 hb.lt
  have B2 := B1.trans (hB2.mono B1.size)
  clear hc2
  cases hk : nmOk h.name with
  | false =>
    go_wp2
    go_ret2
    rw [putHd, putHdErr, hk]
    exact ⟨none, 0, rfl, Nat.le_refl _, Rd.nil _ _ _ _, B2⟩
  | true =>
    have h16 := nmOk_le hk
    go_wp2_with ((with_reducible refine at_load 51 ?_); refine wpList_loadAll _ rfl 51 _ rfl w.heap.size 51 (hdCells h).toArray hb2 _ rfl Tryz.underlying51 rfl (by rw [h35.out]; exact inf_hd) ?_)
    refine (written_any h ok h16 W2).mono ?_
    rintro e W3 ⟨A, c, rfl, h64, hR, hB3⟩
    have B3 := B2.trans (hB3.mono B2.size)
    go_wp2
    go_ret2
    rw [putHd, putHdErr, hk]
    have hl := hdBytes_length h hdL.out h16
    refine ⟨A, c, ?_, ?_, ?_, B3⟩ <;> simp only [if_true, hl] <;> first | rfl | assumption

/-! the reference's writer -/
def WrSt (w : World) (g : Nat) (L : List UInt8) (e : Int) : Prop :=
  ∃ A c, Blk w g 175 #[.slice A L.length c, .int .i64 e] ∧ w.ownsRow (g + 1) 5 1 (.slice A L.length c) L.length (bcells L)
theorem WrSt.below {w w' : World} {g B : Nat} {L : List UInt8} {e : Int} (h : WrSt w g L e) (hb : Below B w w') (hB : w.heap.size ≤ B) : WrSt w' g L e := by
  obtain ⟨A, c, h1, h2⟩ := h
  exact ⟨A, c, h1.below hb (Nat.lt_of_lt_of_le h1.lt hB), own_chg h2 (Chg.of_below (Z := fun _ => False) (hb.mono hB) (fun k hk hk2 => by omega)) (fun _ _ => id)⟩

end Go.Proofs.YtipdmhppadapkaaGreatDoor
/-
  Walks: the reference's writer of a name; portreeveref14.PutHeader.
-/
namespace Go.Proofs.YtipdmhppadapkaaGreatDoor
open Go.RowKit

end Go.Proofs.YtipdmhppadapkaaGreatDoor
/-
  Walk: portreeveref14.PutHeader.
-/
namespace Go.Proofs.YtipdmhppadapkaaGreatDoor
open Go.RowKit

end Go.Proofs.YtipdmhppadapkaaGreatDoor
/-
  Walk: img.Of: the header that bytes are.
-/
namespace Go.Proofs.YtipdmhppadapkaaGreatDoor
open Go.RowKit

def nmAt (b : List UInt8) : List UInt8 := ((b.drop 16).take 16).takeWhile (fun c => !(c == 0))
def hdRaw (b : List UInt8) : Hd := ⟨rdNum b 4 4 false, rdNum b 8 4 false, nmAt b, b.drop 32⟩
def hdGood (b : List UInt8) : Bool := b.length == 64 && nmOk (nmAt b) && (hdBytes (hdRaw b) == b)
def hdVal (b : List UInt8) : Hd := if hdGood b then hdRaw b else zhd
def hdErr (b : List UInt8) : Int := if hdGood b then 0 else 150
theorem nmAt_le (b : List UInt8) : (nmAt b).length ≤ 16 := by
  unfold nmAt
  refine Nat.le_trans (List.takeWhile_sublist _).length_le ?_
  simp; omega
theorem hdRaw_ok (b : List UInt8) (h : b.length = 64) : (hdRaw b).ok :=
  ⟨rdNum_lt b 4 4 false, rdNum_lt b 8 4 false, by have := nmAt_le b; show (nmAt b).length ≤ _; omega, by show (b.drop 32).length = 32; simp; omega⟩
theorem hdVal_ok (b : List UInt8) : (hdVal b).ok := by
  unfold hdVal
  split
  · rename_i h
    simp only [hdGood, Bool.and_eq_true, beq_iff_eq] at h
    exact hdRaw_ok b h.1.1
  · exact ⟨by show 0 < _; omega, by show 0 < _; omega, by simp [zhd], rfl⟩
theorem nmAt_eq (b : List UInt8) (hl : b.length = 64) (k : Nat) (hk : k ≤ 16) (h : ∀ j, j < k → b[16 + j]? ≠ some 0) (he : k = 16 ∨ b[16 + k]? = some 0) : nmAt b = (b.drop 16).take k := by
  have e : (b.drop 16).take 16 = (b.drop 16).take k ++ ((b.drop 16).drop k).take (16 - k) := by
    rw [show (16 : Nat) = k + (16 - k) by omega, List.take_add]; simp
  unfold nmAt
  rw [e, List.takeWhile_append_of_pos]
  · rcases he with rfl | he
    · simp
    · rcases Nat.eq_or_lt_of_le hk with rfl | hk
      · simp
      · have : ((b.drop 16).drop k).take (16 - k) = 0 :: (((b.drop 16).drop k).take (16 - k)).tail := by
          cases hx : ((b.drop 16).drop k).take (16 - k) with
          | nil => have := congrArg List.length hx; simp at this; omega
          | cons x xs =>
            have h0 : (((b.drop 16).drop k).take (16 - k))[0]? = some x := by rw [hx]; rfl
            rw [List.getElem?_take, if_pos (by omega), List.getElem?_drop, List.getElem?_drop, Nat.add_zero, he] at h0
            cases h0; rfl
        rw [this]; simp
  · intro c hc
    obtain ⟨i, hi⟩ := List.getElem?_of_mem hc
    rw [List.getElem?_take] at hi
    split at hi
    · rename_i hik
      rw [List.getElem?_drop] at hi
      have := h i hik
      rw [hi] at this
      simpa using this
    · cases hi
theorem run_build_at {P : Program} (w : World) {t : TypeId} {fields : Array Field} {z : Array Value} (i off : Nat) (v : Value) (places : List (Nat × Nat)) (hu : P.underlying t = some (.struct fields))
    (hz : (P.info? t).map (·.zero) = some (some (.agg z))) (hp : fields.toList.mapM (fun f => (P.info? f.type).map fun i => (f.offset, i.size)) = some places)
    (hpl : places.toArray[i]? = some (off, v.cells.size)) (hl : off + v.cells.size ≤ z.size) :
    (Instr.build t #[(i, v)]).run P w = .ok (.agg (splice z.toList off v.cells.toList).toArray) w := by
  refine run_build w t _ _ ?_
  obtain ⟨inf, hi, hz⟩ := Option.map_eq_some_iff.1 hz
  unfold Program.built
  simp only [hi, hu, hz, hp]
  have := fill_splice (place := (places.toArray[·]?)) (cells := z) (rest := []) hpl hl
  simp only [Instr.fill] at this ⊢
  simpa [Value.cells] using this
theorem run_hd3 (d : List UInt8) (hd : d.length = 32) (w : World) : (Instr.build 51 #[(3, .agg (bcells d).toArray)]).run Tryz.prog w = .ok (.agg (hdCells ⟨0, 0, [], d⟩).toArray) w := by
  have := run_build_at (P := Tryz.prog) w (t := 51) (z := (hdCells zhd).toArray) 3 3 (.agg (bcells d).toArray) [(0, 1), (1, 1), (2, 1), (3, 32)] Tryz.underlying51 (by kernel_rfl) (by kernel_rfl) (by simp [Value.cells, bcells_length, hd]) (by simp [Value.cells, bcells_length, hd, hdCells_length, zhd])
  have e : splice (hdCells zhd) 3 (bcells d) = hdCells ⟨0, 0, [], d⟩ := by
    rw [splice, List.drop_eq_nil_of_le (by rw [hdCells_length zhd rfl, bcells_length, hd]; omega), List.append_nil]
    simp [hdCells, zhd]
  simp only [Value.cells, List.toList_toArray] at this
  rw [e] at this
  exact this
theorem run_hd0 (w : World) : (Instr.build 51 #[]).run Tryz.prog w = .ok (.agg (hdCells zhd).toArray) w := by kernel_rfl
theorem hd_set0 (v s : Nat) (n d : List UInt8) (x : Nat) : (hdCells ⟨v, s, n, d⟩).toArray.setIfInBounds 0 (.int .u32 (x : Int)) = (hdCells ⟨x, s, n, d⟩).toArray := by simp [hdCells]
theorem hd_set1 (v s : Nat) (n d : List UInt8) (x : Nat) : (hdCells ⟨v, s, n, d⟩).toArray.setIfInBounds 1 (.int .u32 (x : Int)) = (hdCells ⟨v, x, n, d⟩).toArray := by simp [hdCells]
theorem hd_set2 (v s : Nat) (n d : List UInt8) (x : List UInt8) : (hdCells ⟨v, s, n, d⟩).toArray.setIfInBounds 2 (.string ⟨x.toArray⟩) = (hdCells ⟨v, s, x, d⟩).toArray := by simp [hdCells]
theorem hdz35 : (hdCells zhd).toArray.size = 35 := by rw [List.size_toArray, hdCells_length zhd rfl]

set_option maxRecDepth 100000 in
set_option maxHeartbeats 2000000 in
theorem mOf_len (A : Option Addr) (n c : Nat) (l : List UInt8) (hn : n ≠ 64) (w : World) (h : Rd w w.heap.size 1 A n (bcells l)) :
    Calls Tryz.prog 109 #[.slice A n c] w fun e w' => e = .returned (.tuple #[.agg (hdCells (hdVal l)).toArray, .int .i64 (hdErr l)]) ∧ Below w.heap.size w w' := by
  have hlen : n = l.length := by have := h.len; rw [bcells_length] at this; omega
  have hg : hdGood l = false := by simp [hdGood, ← hlen, hn]
  rw [hdVal, hdErr, hg]
  have hz := zeroHd
  have hb0 := run_hd0
  have h35 := Lib.hid hdz35
  have hb := Blk.new w 51 (hdCells zhd).toArray
  have B1 : Below w.heap.size w (w.alloc (.cells (hdCells zhd).toArray 51)) := (Below.refl _ _).alloc (Nat.le_refl _) _
  have hne : ((n : Int) == 64) = false := by simp; omega
  clear hlen hg h
  go_enter Tryz.func109, Tryz.ntmps109
  go_wp2_with ((with_reducible refine at_store 51 ?_); refine wpList_storeAll _ rfl 51 _ _ rfl w.heap.size 51 _ (hdCells zhd).toArray hb rfl rfl rfl (by rw [h35.out]; exact inf_hd) (hdCells_one zhd) ?_; intro w3 hb3 hg3 hs3)
  refine bodyPost_ret (results_cell_tmp rfl _ _ w.heap.size _ _ _ _ rfl hb3 Tryz.underlying51 rfl (by rw [h35.out]; exact inf_hd)) rfl ⟨rfl, ?_⟩
  exact grown_below B1 hg3 B1.size (Nat.le_refl _)

set_option maxRecDepth 100000 in
set_option maxHeartbeats 4000000 in
theorem mOf_64 (A : Option Addr) (c : Nat) (hc : 64 ≤ c) (l : List UInt8) (w : World) (h : Rd w w.heap.size 1 A 64 (bcells l)) :
    Calls Tryz.prog 109 #[.slice A 64 c] w fun e w' => e = .returned (.tuple #[.agg (hdCells (hdVal l)).toArray, .int .i64 (hdErr l)]) ∧ Below w.heap.size w w' := by
  have hlen : l.length = 64 := by have := h.len; rw [bcells_length] at this; omega
  obtain ⟨d, hd⟩ : ∃ d, d = l.drop 32 := ⟨_, rfl⟩
  have dL : Hid (d.length = 32) := Lib.hid (by rw [hd]; simp; omega)
  obtain ⟨vr, hvr⟩ : ∃ x, x = rdNum l 4 4 false := ⟨_, rfl⟩
  obtain ⟨sz, hsz⟩ : ∃ x, x = rdNum l 8 4 false := ⟨_, rfl⟩
  have HRaw : Hid (∀ nm, nm = nmAt l → hdRaw l = ⟨vr, sz, nm, d⟩) := Lib.hid (by rintro nm rfl; rw [hvr, hsz, hd]; rfl)
  have HVR := Lib.hid hvr
  have HSZ := Lib.hid hsz
  have HD := Lib.hid hd
  have HLEN := Lib.hid hlen
  have hz := zeroHd
  have hb0 := run_hd0
  have hbd3 := run_hd3 d dL.out
  have h35 := Lib.hid hdz35
  have hdr : Rd w w.heap.size 1 (A.map fun x => ⟨x.block, x.off + 32, none⟩) 32 (bcells d) := by
    have := h.at_ 32 32 (by omega) (by omega)
    rw [List.take_of_length_le (by simp; omega)] at this
    rw [hd]; exact this
  have hdr1 := hdr.alloc (Nat.le_refl _) (.cells (hdCells zhd).toArray 51)
  have hbR := (Blk.new w 51 (hdCells zhd).toArray).alloc (.cells (hdCells zhd).toArray 51)
  have hbH := blkI1 w (.cells (hdCells zhd).toArray 51) 51 (hdCells zhd).toArray
  have B1 : Below w.heap.size w ((w.alloc (.cells (hdCells zhd).toArray 51)).alloc (.cells (hdCells zhd).toArray 51)) := ((Below.refl _ _).alloc (Nat.le_refl _) _).alloc (by simp) _
  have harr : ∀ W, (Instr.arrayAt 39 (.slice (A.map fun x => ⟨x.block, x.off + 32, none⟩) 32 (c - 32))).run Tryz.prog W = .ok (.pointer (A.map fun x => ⟨x.block, x.off + 32, none⟩)) W := fun W => run_arrayAt W Tryz.underlying39 _ _ _ (Nat.le_refl _)
  have h32 : ¬ c = 32 := by omega
  have c32 : (32 : Int) ≤ (c : Int) := by omega
  clear hlen hd hvr hsz
  go_enter Tryz.func109, Tryz.ntmps109
  go_wp2_with (first
    | ((with_reducible refine at_load 39 ?_); refine wpList_runV rfl (reg_loadRd 39 14 rfl rfl hdr1 Tryz.underlying39 rfl (by rw [List.size_toArray, bcells_length, dL.out]; exact infNode) (by rw [bcells_length, dL.out]; omega)) ?_)
    | ((with_reducible refine at_build 51 ?_); refine wpList_buildV _ rfl #[(3, .agg (bcells d).toArray)] rfl (by simp [Act.eval, Act.put]) (run_hd3 d dL.out _) ?_)
    | ((with_reducible refine at_store 51 ?_); refine wpList_storeAll _ rfl 51 _ _ rfl (w.heap.size + 1) 51 _ (hdCells ⟨0, 0, [], d⟩).toArray hbH rfl rfl (by rw [h35.out, List.size_toArray, hdCells_length _ dL.out]) (by rw [List.size_toArray, hdCells_length _ dL.out]; exact inf_hd) (hdCells_one _) ?_; intro W3 hb3 hg3 hs3))
  have B3 := grown_below B1 hg3 B1.size (by omega)
  have hbR3 := hbR.grown hg3 (by simp)
  have hR3 := (h.below B3).more B3.size
  clear hbR hbH B1 hg3 hs3 hdr hdr1 harr hbd3
  refine (be32_any A 64 c 4 l W3 hR3 (by omega)).mono ?_
  rintro e w' ⟨rfl, hw⟩
  subst hw
  rw [← HVR.out]
  have c0 : W3.cell? ⟨w.heap.size + 1, 0, none⟩ = some (.int .u32 0) := (hb3.cell 0).trans rfl
  have f0 : W3.frozen? ⟨w.heap.size + 1, 0, none⟩ = false := hb3.frozen 0
  go_wp2_with fail
  have B4 := B3.setCell (p := ⟨w.heap.size + 1, 0, none⟩) (by simp) (.int .u32 (vr : Int))
  have hb4 := hb3.set_ 0 (.int .u32 (vr : Int))
  rw [hd_set0] at hb4
  have hbR4 := hbR3.far (p := ⟨w.heap.size + 1, 0, none⟩) (by simp) (.int .u32 (vr : Int))
  generalize W3.setCell ⟨w.heap.size + 1, 0, none⟩ (.int .u32 (vr : Int)) = W4 at *
  clear B3 hb3 hbR3 hR3 c0 f0
  refine (be32_any A 64 c 8 l W4 ((h.below B4).more B4.size) (by omega)).mono ?_
  rintro e w' ⟨rfl, hw⟩
  subst hw
  rw [← HSZ.out]
  have c1 : W4.cell? ⟨w.heap.size + 1, 1, none⟩ = some (.int .u32 0) := (hb4.cell 1).trans rfl
  have f1 : W4.frozen? ⟨w.heap.size + 1, 1, none⟩ = false := hb4.frozen 1
  go_wp2_with fail
  have B5 := B4.setCell (p := ⟨w.heap.size + 1, 1, none⟩) (by simp) (.int .u32 (sz : Int))
  have hb5 := hb4.set_ 1 (.int .u32 (sz : Int))
  rw [hd_set1] at hb5
  have hbR5 := hbR4.far (p := ⟨w.heap.size + 1, 1, none⟩) (by simp) (.int .u32 (sz : Int))
  generalize W4.setCell ⟨w.heap.size + 1, 1, none⟩ (.int .u32 (sz : Int)) = W5 at *
  clear B4 hb4 hbR4 c1 f1
  have hR5 := (h.below B5).more B5.size
  obtain ⟨bb, off, rfl, hbb, hrng⟩ := hR5.range (by omega)
  have h16 : ¬ c = 16 := by omega
  have c16 : (16 : Int) ≤ (c : Int) := by omega
  have hlb : ∀ j, j < 16 → ∃ ch : UInt8, l[16 + j]? = some ch ∧ W5.cell? ⟨bb, off + (16 + j), none⟩ = some (.int .u8 (ch.toNat : Int)) := fun j hj => by
    have hl : 16 + j < l.length := by have := HLEN.out; omega
    exact ⟨l[16 + j], List.getElem?_eq_getElem hl, hrng (16 + j) _ (by simp [bcells, hl])⟩
  have HLB := Lib.hid hlb
  clear hlb
  go_loop [5] (fun i => ∃ k : Nat, k ≤ 16 ∧ i = .int .i64 k ∧ Hid (∀ j, j < k → l[16 + j]? ≠ some 0)) (fun i => 16 - (intOf i).toNat)
  case atStart => exact ⟨0, Nat.zero_le _, rfl, Lib.hid (fun j hj => absurd hj (Nat.not_lt_zero j))⟩
  case round =>
    obtain ⟨k, hk, rfl, hall⟩ := hrel
    have hcase : (k < 16 ∧ ∃ ch : UInt8, ch ≠ 0 ∧ l[16 + k]? = some ch ∧ W5.cell? ⟨bb, off + (16 + k), none⟩ = some (.int .u8 (ch.toNat : Int))) ∨ (k < 16 ∧ l[16 + k]? = some 0 ∧ W5.cell? ⟨bb, off + (16 + k), none⟩ = some (.int .u8 0)) ∨ 16 ≤ k := by
      by_cases hlt : k < 16
      · obtain ⟨ch, hch, hcell⟩ := HLB.out k hlt
        by_cases h0 : ch = 0
        · subst h0; exact .inr (.inl ⟨hlt, hch, hcell⟩)
        · exact .inl ⟨hlt, ch, h0, hch, hcell⟩
      · exact .inr (.inr (by omega))
    rcases hcase with ⟨hlt, ch, h0, hch, hcell⟩ | ⟨hlt, hch, hcell⟩ | hlt
    · have HCH := Lib.hid hch
      have hz1 : (((ch.toNat : Nat) : Int) == 0) = false := by
        have : ch.toNat ≠ 0 := fun e => h0 (UInt8.toNat_inj.1 (by simpa using e))
        simp; omega
      have hz3 : ¬ ((ch.toNat : Nat) : Int) = 0 := by simpa using hz1
      have hz2 : (((ch.toNat : Nat) : Int) != 0) = true := by simpa using hz3
      have hnext : Hid (∀ j, j < k + 1 → l[16 + j]? ≠ some 0) := Lib.hid (fun j hj => by
        rcases Nat.lt_succ_iff_lt_or_eq.1 hj with h | rfl
        · exact hall.out j h
        · rw [HCH.out]; intro e; cases e; exact h0 rfl)
      clear h0 hch
      go_wp2
      go_round
      case rel => exact ⟨k + 1, by omega, by go_num, hnext⟩
      case measure => simp [intOf]; omega
    all_goals
      have hend : Hid (nmAt l = (l.drop 16).take k) := Lib.hid (nmAt_eq l HLEN.out k hk hall.out (by first | exact .inr hch | exact .inl (by omega)))
      try clear hch
      obtain ⟨nm, hnm⟩ : ∃ nm, nm = (l.drop 16).take k := ⟨_, rfl⟩
      have HNM : Hid (nm = nmAt l) := Lib.hid (by rw [hnm]; exact hend.out.symm)
      have hrn : Rd W5 W5.heap.size 1 (some ⟨bb, off + 16, none⟩) (16 + k - 16) (bcells nm) := by rw [hnm, show 16 + k - 16 = k by omega]; exact hR5.at_ 16 k (by omega) (by omega)
      have c2 : W5.cell? ⟨w.heap.size + 1, 2, none⟩ = some (.string ⟨#[]⟩) := (hb5.cell 2).trans rfl
      have f2 : W5.frozen? ⟨w.heap.size + 1, 2, none⟩ = false := hb5.frozen 2
      have hb6 := hb5.set_ 2 (.string ⟨nm.toArray⟩)
      rw [hd_set2] at hb6
      have h35' : Hid ((hdCells ⟨vr, sz, nm, d⟩).toArray.size = 35) := Lib.hid (by rw [List.size_toArray, hdCells_length _ dL.out])
      have B6 := B5.setCell (p := ⟨w.heap.size + 1, 2, none⟩) (by simp) (.string ⟨nm.toArray⟩)
      have hbR6 := hbR5.far (p := ⟨w.heap.size + 1, 2, none⟩) (by simp) (.string ⟨nm.toArray⟩)
      clear hnm hend
      go_wp2_with (first
        | ((with_reducible refine at_conv ?_); refine wpList_str _ Tryz.underlying22 Tryz.underlying5 Tryz.underlying9 rfl _ rfl (some ⟨bb, off + 16, none⟩) (16 + k - 16) (c - 16) nm rfl hrn ?_)
        | ((with_reducible refine at_load 51 ?_); refine wpList_loadAll _ rfl 51 (.tmp 4) rfl (w.heap.size + 1) 51 (hdCells ⟨vr, sz, nm, d⟩).toArray hb6 _ rfl Tryz.underlying51 rfl (by rw [h35'.out]; exact inf_hd) ?_))
      generalize W5.setCell ⟨w.heap.size + 1, 2, none⟩ (.string ⟨nm.toArray⟩) = W6 at *
      clear c2 f2 hrn B5 hb5 hbR5 hR5 hbb hrng
      try clear hcell
      have HRW : Hid (hdRaw l = ⟨vr, sz, nm, d⟩) := Lib.hid (HRaw.out nm HNM.out)
      have ok6 : (Hd.mk vr sz nm d).ok := by rw [← HRW.out]; exact hdRaw_ok l HLEN.out
      have hG : Hid (hdGood l = (nmOk nm && (hdBytes ⟨vr, sz, nm, d⟩ == l))) := Lib.hid (by unfold hdGood; rw [HLEN.out, ← HNM.out, HRW.out]; rfl)
      refine (mPutH_any ⟨vr, sz, nm, d⟩ ok6 W6).mono ?_
      rintro e W7 ⟨A7, c7, rfl, h7, hR7, hB7⟩
      have B7 := B6.trans (hB7.mono B6.size)
      have hb7 := hb6.below hB7 hb6.lt
      have hbR7 := hbR6.below hB7 hbR6.lt
      have sb := run_str W7 22 9 5 (some ⟨bb, off, none⟩) 64 c l Tryz.underlying22 Tryz.underlying5 Tryz.underlying9 ((h.below B7).more B7.size)
      obtain ⟨X, hX⟩ : ∃ X, X = putHd ⟨vr, sz, nm, d⟩ := ⟨_, rfl⟩
      obtain ⟨E, hE⟩ : ∃ E, E = putHdErr ⟨vr, sz, nm, d⟩ := ⟨_, rfl⟩
      rw [← hX] at hR7 h7 ⊢
      rw [← hE]
      have sx := run_str W7 22 9 5 A7 X.length c7 X Tryz.underlying22 Tryz.underlying5 Tryz.underlying9 hR7
      clear hbR6 hb6 hB7 B6 HRaw h hR7
      cases hkk : nmOk nm with
      | false =>
        have hE2 : E = 150 := by rw [hE, putHdErr, if_neg (by simp [hkk])]
        have hGf : Hid (hdGood l = false) := Lib.hid (by rw [hG.out, hkk]; rfl)
        subst hE2
        clear hE hX hG
        go_wp2_with ((with_reducible refine at_store 51 ?_); refine wpList_storeAll _ rfl 51 _ _ rfl w.heap.size 51 _ (hdCells zhd).toArray hbR7 rfl rfl rfl (by rw [h35.out]; exact inf_hd) (hdCells_one zhd) ?_; intro w8 hb8 hg8 hs8)
        refine bodyPost_ret (results_cell_tmp rfl _ _ w.heap.size _ _ _ _ rfl hb8 Tryz.underlying51 rfl (by rw [h35.out]; exact inf_hd)) rfl ⟨by rw [hdVal, hdErr, hGf.out]; rfl, ?_⟩
        exact grown_below B7 hg8 B7.size (Nat.le_refl _)
      | true =>
        have hE2 : E = 0 := by rw [hE, putHdErr, if_pos (by simp [hkk])]
        have hX2 : X = hdBytes ⟨vr, sz, nm, d⟩ := by rw [hX, putHd, if_pos (by simp [hkk])]
        rw [hkk, ← hX2] at hG
        subst hE2
        cases hcmp : (X == l) with
        | false =>
          have hGf : Hid (hdGood l = false) := Lib.hid (by rw [hG.out, hcmp]; rfl)
          have hne : X ≠ l := by simpa using hcmp
          clear hE hX hG hX2
          go_wp2_with ((with_reducible refine at_store 51 ?_); refine wpList_storeAll _ rfl 51 _ _ rfl w.heap.size 51 _ (hdCells zhd).toArray hbR7 rfl rfl rfl (by rw [h35.out]; exact inf_hd) (hdCells_one zhd) ?_; intro w8 hb8 hg8 hs8)
          refine bodyPost_ret (results_cell_tmp rfl _ _ w.heap.size _ _ _ _ rfl hb8 Tryz.underlying51 rfl (by rw [h35.out]; exact inf_hd)) rfl ⟨by rw [hdVal, hdErr, hGf.out]; rfl, ?_⟩
          exact grown_below B7 hg8 B7.size (Nat.le_refl _)
        | true =>
          have hGt : Hid (hdGood l = true) := Lib.hid (by rw [hG.out, hcmp]; rfl)
          have heq : X = l := by simpa using hcmp
          have sx' := sx
          rw [heq] at sx'
          clear hE hX hG hX2
          go_wp2_with (first
            | ((with_reducible refine at_load 51 ?_); refine wpList_loadAll _ rfl 51 (.tmp 4) rfl (w.heap.size + 1) 51 (hdCells ⟨vr, sz, nm, d⟩).toArray hb7 _ rfl Tryz.underlying51 rfl (by rw [h35'.out]; exact inf_hd) ?_)
            | ((with_reducible refine at_store 51 ?_); refine wpList_storeAll _ rfl 51 _ _ rfl w.heap.size 51 _ (hdCells ⟨vr, sz, nm, d⟩).toArray hbR7 rfl rfl (by rw [h35'.out, h35.out]) (by rw [h35'.out]; exact inf_hd) (hdCells_one _) ?_; intro w8 hb8 hg8 hs8))
          refine bodyPost_ret (results_cell_tmp rfl _ _ w.heap.size _ _ _ _ rfl hb8 Tryz.underlying51 rfl (by rw [h35'.out]; exact inf_hd)) rfl ⟨by rw [hdVal, hdErr, hGt.out, if_pos rfl, if_pos rfl, HRW.out]; rfl, ?_⟩
          exact grown_below B7 hg8 B7.size (Nat.le_refl _)
theorem mOf_any (A : Option Addr) (n c : Nat) (hc : n ≤ c) (l : List UInt8) (w : World) (h : Rd w w.heap.size 1 A n (bcells l)) :
    Calls Tryz.prog 109 #[.slice A n c] w fun e w' => e = .returned (.tuple #[.agg (hdCells (hdVal l)).toArray, .int .i64 (hdErr l)]) ∧ Below w.heap.size w w' := by
  by_cases h64 : n = 64
  · subst h64; exact mOf_64 A c hc l w h
  · exact mOf_len A n c l h64 w h
end Go.Proofs.YtipdmhppadapkaaGreatDoor
/-
  Walks: the reference's reader; portreeveref14.HeaderOf.
-/
namespace Go.Proofs.YtipdmhppadapkaaGreatDoor
open Go.RowKit

/-- of what was there block g alone may have changed -/
def Only (g : Nat) (w w' : World) : Prop := Chg (fun b => b = g) w w'
theorem Only.refl (g : Nat) (w : World) : Only g w w := Chg.refl _ w
theorem Only.trans {g : Nat} {a b c : World} (h : Only g a b) (k : Only g b c) : Only g a c := Chg.trans h k
theorem Only.below {g : Nat} {w w' : World} (h : Only g w w') (hg : g ≤ w.heap.size) : Below g w w' := Chg.below h (fun k e => by have e2 : k = g := e; omega) hg
theorem Only.set (g i : Nat) (v : Value) (w : World) : Only g w (w.setCell ⟨g, i, none⟩ v) := Chg.grown (grown_set w g i v) (by rintro k h; cases h; rfl)
end Go.Proofs.YtipdmhppadapkaaGreatDoor
/-
  Walks: the reference's reader of a name; portreeveref14.HeaderOf.
-/
namespace Go.Proofs.YtipdmhppadapkaaGreatDoor
open Go.RowKit

end Go.Proofs.YtipdmhppadapkaaGreatDoor
/-
  Plain: what is put is read again. Walks: chapter 15's example; the laws ImgHeaders, ImgBack.
-/
namespace Go.Proofs.YtipdmhppadapkaaGreatDoor
open Go.RowKit

end Go.Proofs.YtipdmhppadapkaaGreatDoor
/-
  Walks: chapter 15's example; the laws ImgHeaders, ImgBack.
-/
namespace Go.Proofs.YtipdmhppadapkaaGreatDoor
open Go.RowKit

end Go.Proofs.YtipdmhppadapkaaGreatDoor
/-
  Walk: the law ImgBack.
-/
namespace Go.Proofs.YtipdmhppadapkaaGreatDoor
open Go.RowKit

end Go.Proofs.YtipdmhppadapkaaGreatDoor
/-
  Plain: the parts of an image. Walk: the closure of img.Split.
-/
namespace Go.Proofs.YtipdmhppadapkaaGreatDoor
open Go.RowKit

theorem results_cell_tmp4 {P : Program} {fn : Func} {p q1 q2 q3 q4 : Tmp} {ty : TypeId} (h : fn.results = #[.cell p ty, .tmp q1, .tmp q2, .tmp q3, .tmp q4]) (tmps : Array Value) (w : World) (g : Nat) (t : TypeId) (cs : Array Value) (fr : Nat × Nat) (d : TypeDesc)
    (hp : tmps.getD p undef = .pointer (some ⟨g, 0, none⟩)) (hg : w.heap[g]? = some (.cells cs t fr))
    (hu : P.underlying ty = some d) (hd : (match d with | .struct _ | .array _ _ => true | _ => false) = true) (hi : (P.info? ty).map (·.size) = some cs.size) :
    (results fn tmps).run P w = .ok (.tuple #[.agg cs, tmps.getD q1 undef, tmps.getD q2 undef, tmps.getD q3 undef, tmps.getD q4 undef]) w := by
  have hp' : tmps[p]?.getD undef = .pointer (some ⟨g, 0, none⟩) := by simpa using hp
  simp [results, h, hp', asAddr, run_loadVar_row w g t ty cs fr d hg hu hd hi]

def splGood (l : List UInt8) (o : Nat) : Bool := isKind o && decide (64 + sigSize o ≤ l.length) && hdGood (l.take 64) && decide (l.length - 64 - sigSize o = (hdVal (l.take 64)).size)
def splErr (l : List UInt8) (o : Nat) : Int := if splGood l o then 0 else if isKind o then 150 else 80
def splHd (l : List UInt8) (o : Nat) : Hd := if splGood l o then hdVal (l.take 64) else zhd
def splA (l : List UInt8) (o : Nat) : List UInt8 := if splGood l o then l.take 64 else []
def splB (l : List UInt8) (o : Nat) : List UInt8 := if splGood l o then (l.drop 64).take (sigSize o) else []
def splC (l : List UInt8) (o : Nat) : List UInt8 := if splGood l o then l.drop (64 + sigSize o) else []
def SplRet (w : World) (l : List UInt8) (o : Nat) (e : Ending) (w' : World) : Prop :=
  ∃ A1 c1 A2 c2 A3 c3, e = .returned (.tuple #[.agg (hdCells (splHd l o)).toArray, .slice A1 (splA l o).length c1, .slice A2 (splB l o).length c2, .slice A3 (splC l o).length c3, .int .i64 (splErr l o)]) ∧
    Rd w' w'.heap.size 1 A1 (splA l o).length (bcells (splA l o)) ∧ Rd w' w'.heap.size 1 A2 (splB l o).length (bcells (splB l o)) ∧ Rd w' w'.heap.size 1 A3 (splC l o).length (bcells (splC l o)) ∧ Below w.heap.size w w'
theorem SplRet.bad {w w' : World} {l : List UInt8} {o : Nat} {x : Int} (hg : splGood l o = false) (hx : x = if isKind o then 150 else 80) (B : Below w.heap.size w w') :
    SplRet w l o (.returned (.tuple #[.agg (hdCells zhd).toArray, .slice none 0 0, .slice none 0 0, .slice none 0 0, .int .i64 x])) w' := by
  have e1 : splA l o = [] := by simp [splA, hg]
  have e2 : splB l o = [] := by simp [splB, hg]
  have e3 : splC l o = [] := by simp [splC, hg]
  have e4 : splHd l o = zhd := by simp [splHd, hg]
  have e5 : splErr l o = x := by simp [splErr, hg, hx]
  unfold SplRet
  rw [e1, e2, e3, e4, e5]
  exact ⟨none, 0, none, 0, none, 0, rfl, Rd.nil _ _ _ _, Rd.nil _ _ _ _, Rd.nil _ _ _ _, B⟩

/-- .. and the slices' capacities are no less -/
def SplRetC (bs : Nat) (w : World) (l : List UInt8) (o : Nat) (e : Ending) (w' : World) : Prop :=
  ∃ A1 c1 A2 c2 A3 c3, e = .returned (.tuple #[.agg (hdCells (splHd l o)).toArray, .slice A1 (splA l o).length c1, .slice A2 (splB l o).length c2, .slice A3 (splC l o).length c3, .int .i64 (splErr l o)]) ∧
    Rd w' bs 1 A1 (splA l o).length (bcells (splA l o)) ∧ Rd w' bs 1 A2 (splB l o).length (bcells (splB l o)) ∧ Rd w' bs 1 A3 (splC l o).length (bcells (splC l o)) ∧ Below w.heap.size w w' ∧
    (splA l o).length ≤ c1 ∧ (splB l o).length ≤ c2 ∧ (splC l o).length ≤ c3
theorem SplRetC.bad {bs : Nat} {w w' : World} {l : List UInt8} {o : Nat} {x : Int} (hg : splGood l o = false) (hx : x = if isKind o then 150 else 80) (B : Below w.heap.size w w') :
    SplRetC bs w l o (.returned (.tuple #[.agg (hdCells zhd).toArray, .slice none 0 0, .slice none 0 0, .slice none 0 0, .int .i64 x])) w' := by
  have e1 : splA l o = [] := by simp [splA, hg]
  have e2 : splB l o = [] := by simp [splB, hg]
  have e3 : splC l o = [] := by simp [splC, hg]
  have e4 : splHd l o = zhd := by simp [splHd, hg]
  have e5 : splErr l o = x := by simp [splErr, hg, hx]
  unfold SplRetC
  rw [e1, e2, e3, e4, e5]
  exact ⟨none, 0, none, 0, none, 0, rfl, Rd.nil _ _ _ _, Rd.nil _ _ _ _, Rd.nil _ _ _ _, B, Nat.le_refl _, Nat.le_refl _, Nat.le_refl _⟩
/-- a row of uint8 -/
def IsU8 (w : World) (A : Option Addr) : Prop := ∀ y, A = some y → ∃ cs fr, w.heap[y.block]? = some (.cells cs 5 fr)
theorem IsU8.none (w : World) : IsU8 w none := fun y h => by cases h
theorem IsU8.below {w w' : World} {A : Option Addr} (h : IsU8 w A) (hb : Below w.heap.size w w') : IsU8 w' A := fun y hy => by
  obtain ⟨cs, fr, h1⟩ := h y hy
  exact ⟨cs, fr, (hb.block _ (Array.getElem?_eq_some_iff.1 h1).1).trans h1⟩
theorem IsU8.ne {w : World} {A : Option Addr} (h : IsU8 w A) {g : Nat} {t : TypeId} {cs : Array Value} (hg : Blk w g t cs) (ht : (t == 5) = false) : ∀ y, A = some y → y.block ≠ g := fun y hy e => by
  obtain ⟨cs', fr, h1⟩ := h y hy
  have hg' : w.heap[g]? = some (.cells cs t (0, 0)) := hg
  rw [e, hg'] at h1
  simp only [Option.some.injEq, Obj.cells.injEq] at h1
  rw [h1.2.1] at ht
  simp at ht
theorem own_u8 {w : World} {base n : Nat} {A : Option Addr} {c : Nat} {xs : List Value} (h : w.ownsRow base 5 1 (.slice A n c) n xs) : IsU8 w A := fun y hy => by
  subst hy
  rcases h.2 with ⟨e1, _⟩ | ⟨g, cap, cur, e1, _, hh, _⟩
  · cases e1
  · injection e1 with e1 _ _
    injection e1 with e1
    subst e1
    exact ⟨_, _, hh⟩
/-- .. and the slices are new -/
def SplRetN (w : World) (l : List UInt8) (o : Nat) (e : Ending) (w' : World) : Prop :=
  ∃ A1 c1 A2 c2 A3 c3, e = .returned (.tuple #[.agg (hdCells (splHd l o)).toArray, .slice A1 (splA l o).length c1, .slice A2 (splB l o).length c2, .slice A3 (splC l o).length c3, .int .i64 (splErr l o)]) ∧
    Rd w' w'.heap.size 1 A1 (splA l o).length (bcells (splA l o)) ∧ Rd w' w'.heap.size 1 A2 (splB l o).length (bcells (splB l o)) ∧ Rd w' w'.heap.size 1 A3 (splC l o).length (bcells (splC l o)) ∧ Below w.heap.size w w' ∧
    ((splA l o).length ≤ c1 ∧ c1 ≤ 9223372036854775807) ∧ ((splB l o).length ≤ c2 ∧ c2 ≤ 9223372036854775807) ∧ ((splC l o).length ≤ c3 ∧ c3 ≤ 9223372036854775807) ∧ (∀ y, A1 = some y ∨ A2 = some y ∨ A3 = some y → w.heap.size ≤ y.block) ∧ IsU8 w' A3
theorem SplRetN.bad {w w' : World} {l : List UInt8} {o : Nat} {x : Int} (hg : splGood l o = false) (hx : x = if isKind o then 150 else 80) (B : Below w.heap.size w w') :
    SplRetN w l o (.returned (.tuple #[.agg (hdCells zhd).toArray, .slice none 0 0, .slice none 0 0, .slice none 0 0, .int .i64 x])) w' := by
  have e1 : splA l o = [] := by simp [splA, hg]
  have e2 : splB l o = [] := by simp [splB, hg]
  have e3 : splC l o = [] := by simp [splC, hg]
  have e4 : splHd l o = zhd := by simp [splHd, hg]
  have e5 : splErr l o = x := by simp [splErr, hg, hx]
  unfold SplRetN
  rw [e1, e2, e3, e4, e5]
  exact ⟨none, 0, none, 0, none, 0, rfl, Rd.nil _ _ _ _, Rd.nil _ _ _ _, Rd.nil _ _ _ _, B, ⟨Nat.le_refl _, Nat.zero_le _⟩, ⟨Nat.le_refl _, Nat.zero_le _⟩, ⟨Nat.le_refl _, Nat.zero_le _⟩, (fun y h => by rcases h with h | h | h <;> cases h), IsU8.none _⟩
theorem own_capI {w : World} {base n : Nat} {e : TypeId} {A : Option Addr} {c : Nat} {xs : List Value} (h : w.ownsRow base e 1 (.slice A n c) n xs) : n ≤ c ∧ c ≤ 9223372036854775807 := by
  rcases h.2 with ⟨e1, _⟩ | ⟨g, cap, cur, e1, _, _, h4, h5, _⟩
  · injection e1 with _ e1 e2; omega
  · injection e1 with _ _ e2; unfold maxLen at h5; omega
theorem own_newI {w : World} {base n : Nat} {e : TypeId} {A : Option Addr} {c : Nat} {xs : List Value} (h : w.ownsRow base e 1 (.slice A n c) n xs) : ∀ y, A = some y → base ≤ y.block := by
  intro y hy
  subst hy
  exact (h.lt y.block rfl).1
theorem run_slice_nat {P : Program} (w : World) (t : TypeId) (ht : P.underlying t = some (.slice (P.elem t))) (hs : (P.info? (P.elem t)).map (·.size) = some 1) (b off n c f k : Nat) (hf : f + k ≤ c) :
    (Instr.slice t (.slice (some ⟨b, off, none⟩) n c) (some (.int .i64 (f : Int))) (some (.int .i64 ((f + k : Nat) : Int))) none).run P w = .ok (.slice (some (if c = f then ⟨b, off, none⟩ else ⟨b, off + f, none⟩)) k (c - f)) w := by
  obtain ⟨inf, hinf, hsz⟩ := Option.map_eq_some_iff.1 hs
  rw [run_slice_lh w t _ n c ht .i64 .i64 (f : Int) ((f + k : Nat) : Int) (by omega) (by omega) (by omega)]
  have e1 : ((f + k : Nat) : Int).toNat = f + k := by omega
  have e2 : (f : Int).toNat = f := by omega
  rw [e1, e2]
  have es : (sizeOf (P.elem t)).run P w = .ok 1 w := by simp [sizeOf, typeInfo, hinf, hsz]
  rw [es]
  simp only [Result.andThen, sliced, Option.map_some, Nat.mul_one, Addr.add]
  have e3 : f + k - f = k := by omega
  rw [e3]
  by_cases hc : c = f
  · rw [if_pos hc, if_pos hc]
  · rw [if_neg hc, if_neg hc]
    by_cases h0 : f = 0
    · simp [h0]
    · rw [if_neg h0]

set_option maxRecDepth 100000 in
set_option maxHeartbeats 1000000 in
theorem split1_any (g b off n c : Nat) (hc : n ≤ c) (l : List UInt8) (f t : Nat) (hft : f ≤ t) (htn : t ≤ n) (hn : n ≤ 1000000) (w : World)
    (hb : Blk w g 22 #[.slice (some ⟨b, off, none⟩) n c]) (hR : Rd w w.heap.size 1 (some ⟨b, off, none⟩) n (bcells l)) :
    Calls Tryz.prog 110 #[.int .i64 f, .int .i64 t, .pointer (some ⟨g, 0, none⟩)] w fun e w' =>
      ∃ A' c', e = .returned (.slice A' (t - f) c') ∧ w'.ownsRow w.heap.size 5 1 (.slice A' (t - f) c') (t - f) (bcells ((l.drop f).take (t - f))) ∧ Below w.heap.size w w' := by
  have c0 : w.cell? ⟨g, 0, none⟩ = some (.slice (some ⟨b, off, none⟩) n c) := (hb.cell 0).trans rfl
  have hlen : n = l.length := by have := hR.len; rw [bcells_length] at this; omega
  obtain ⟨k, hk⟩ : ∃ k, k = t - f := ⟨_, rfl⟩
  obtain ⟨X, hX⟩ : ∃ X, X = (l.drop f).take k := ⟨_, rfl⟩
  have hr : Rd w w.heap.size 1 (some (if c = f then ⟨b, off, none⟩ else ⟨b, off + f, none⟩)) k (bcells X) := by
    have h1 := (hR.cut (k := f) hc).front (k := k) (by omega)
    have e1 : ((bcells l).drop (f * 1)).take (k * 1) = bcells X := by rw [hX, Nat.mul_one, Nat.mul_one]; simp [bcells]
    rw [e1] at h1
    have e2 : (if c = f then (some ⟨b, off, none⟩ : Option Addr) else (some ⟨b, off, none⟩ : Option Addr).map (·.add (f * 1))) = some (if c = f then ⟨b, off, none⟩ else ⟨b, off + f, none⟩) := by
      split
      · rfl
      · simp [Addr.add]
    rw [e2] at h1
    exact h1
  have ht : t = f + k := by omega
  have hsl := fun W => run_slice_nat (P := Tryz.prog) W 22 (by kernel_rfl) (by kernel_rfl) b off n c f k (by omega)
  rw [← ht] at hsl
  rw [← hk, ← hX]
  have hk6 : k ≤ 1000000 := by omega
  have HL := Lib.hid hlen
  clear hX hk hb hlen ht
  generalize (if c = f then (⟨b, off, none⟩ : Addr) else ⟨b, off + f, none⟩) = A0 at hsl hr
  have hbk := Blk.new w 22 #[.slice (some A0) k (c - f)]
  have g1 := cat_any (some ⟨w.heap.size, 0, none⟩) 1 1 [⟨some A0, k, c - f, X⟩] _ (hbk.rd rfl) (by intro x hx; obtain rfl := List.mem_singleton.1 hx; exact (hr.alloc (Nat.le_refl _) _).more (by simp)) (by simp [Bs.tot]; omega) (by omega)
  have e1 : Bs.tot [⟨some A0, k, c - f, X⟩] = k := by simp [Bs.tot]
  have e2 : Bs.all [⟨some A0, k, c - f, X⟩] = X := by simp [Bs.all]
  rw [e1, e2] at g1
  clear hbk hr e1 e2
  go_enter Tryz.func110, Tryz.ntmps110
  go_wp2_with fail
  refine g1.mono ?_
  rintro e w' ⟨A', c', rfl, hO, hB⟩
  go_wp2
  go_ret
  exact ⟨A', c', rfl, own_baseI hO (by simp), ((Below.refl _ _).alloc (Nat.le_refl _) _).trans (hB.mono (by simp))⟩
theorem split1' (g b off n c : Nat) (hc : n ≤ c) (l : List UInt8) (F T : Int) (f t : Nat) (hF : F = f) (hT : T = t) (hft : f ≤ t) (htn : t ≤ n) (hn : n ≤ 1000000) (w : World)
    (hb : Blk w g 22 #[.slice (some ⟨b, off, none⟩) n c]) (hR : Rd w w.heap.size 1 (some ⟨b, off, none⟩) n (bcells l)) :
    Calls Tryz.prog 110 #[.int .i64 F, .int .i64 T, .pointer (some ⟨g, 0, none⟩)] w fun e w' =>
      ∃ A' c', e = .returned (.slice A' (t - f) c') ∧ w'.ownsRow w.heap.size 5 1 (.slice A' (t - f) c') (t - f) (bcells ((l.drop f).take (t - f))) ∧ Below w.heap.size w w' := by
  subst hF hT
  exact split1_any g b off n c hc l f t hft htn hn w hb hR
end Go.Proofs.YtipdmhppadapkaaGreatDoor
/-
  Walk: img.Split.
-/
namespace Go.Proofs.YtipdmhppadapkaaGreatDoor
open Go.RowKit

theorem blkI1' (w : World) (o : Obj) (t : TypeId) (cs : Array Value) : Blk ((w.alloc (.cells cs t)).alloc o) w.heap.size t cs := (Blk.new w t cs).alloc o

set_option maxRecDepth 100000 in
set_option maxHeartbeats 4000000 in
theorem mSplit_new (A : Option Addr) (n c : Nat) (hc : n ≤ c) (hn : n ≤ 1000000) (l : List UInt8) (o : Nat) (w : World) (h : Rd w w.heap.size 1 A n (bcells l)) :
    Calls Tryz.prog 75 #[.slice A n c, .int .u32 (o : Int)] w (SplRetN w l o) := by
  have hlen : n = l.length := by have := h.len; rw [bcells_length] at this; omega
  have hz := zeroHd
  have hb0 := run_hd0
  have h35 := Lib.hid hdz35
  have hh : hgt o ≤ 20 := by unfold hgt; split <;> (try split) <;> (try split) <;> omega
  have hbX := blkI1' w (.cells (hdCells zhd).toArray 51) 22 #[.slice A n c]
  have hbH := blkI1 w (.cells #[.slice A n c] 22) 51 (hdCells zhd).toArray
  have B1 : Below w.heap.size w ((w.alloc (.cells #[.slice A n c] 22)).alloc (.cells (hdCells zhd).toArray 51)) := ((Below.refl _ _).alloc (Nat.le_refl _) _).alloc (by simp) _
  have HL := Lib.hid hlen
  clear hlen
  go_enter Tryz.func75, Tryz.ntmps75
  go_wp2_with fail
  generalize (w.alloc (.cells #[.slice A n c] 22)).alloc (.cells (hdCells zhd).toArray 51) = W1 at *
  have c0 : W1.cell? ⟨w.heap.size, 0, none⟩ = some (.slice A n c) := (hbX.cell 0).trans rfl
  refine (mSize_any o W1).mono ?_
  rintro e w' ⟨rfl, rfl⟩
  cases hk : isKind o with
  | false =>
    have hgf : Hid (splGood l o = false) := Lib.hid (by simp [splGood, hk])
    have hko : Hid ((80 : Int) = if isKind o then 150 else 80) := Lib.hid (by rw [hk]; rfl)
    go_wp2_with ((with_reducible refine at_store 51 ?_); refine wpList_storeAll _ rfl 51 _ _ rfl (w.heap.size + 1) 51 _ (hdCells zhd).toArray hbH rfl rfl rfl (by rw [h35.out]; exact inf_hd) (hdCells_one zhd) ?_; intro w8 hb8 hg8 hs8)
    refine bodyPost_ret (results_cell_tmp4 rfl _ _ (w.heap.size + 1) _ _ _ _ rfl hb8 Tryz.underlying51 rfl (by rw [h35.out]; exact inf_hd)) rfl ?_
    exact SplRetN.bad hgf.out hko.out (grown_below B1 hg8 B1.size (by omega))
  | true =>
    have hss : Hid (sigSize o = 36 + 32 * (67 + hgt o)) := Lib.hid (by simp [sigSize, hk])
    have hs1 : sigSize o ≤ 3000 := by rw [hss.out]; omega
    have hs2 : 2000 ≤ sigSize o := by rw [hss.out]; omega
    have hko : Hid ((150 : Int) = if isKind o then 150 else 80) := Lib.hid (by rw [hk]; rfl)
    obtain ⟨S, hS⟩ : ∃ S, S = sigSize o := ⟨_, rfl⟩
    rw [← hS] at hs1 hs2 ⊢
    have HS := Lib.hid hS
    have HK := Lib.hid hk
    clear hS hk
    by_cases hsh : n < 64 + S
    · have hgf : Hid (splGood l o = false) := Lib.hid (by
        have : ¬ 64 + sigSize o ≤ l.length := by have := HL.out; have := HS.out; omega
        simp [splGood, this])
      go_wp2_with ((with_reducible refine at_store 51 ?_); refine wpList_storeAll _ rfl 51 _ _ rfl (w.heap.size + 1) 51 _ (hdCells zhd).toArray hbH rfl rfl rfl (by rw [h35.out]; exact inf_hd) (hdCells_one zhd) ?_; intro w8 hb8 hg8 hs8)
      refine bodyPost_ret (results_cell_tmp4 rfl _ _ (w.heap.size + 1) _ _ _ _ rfl hb8 Tryz.underlying51 rfl (by rw [h35.out]; exact inf_hd)) rfl ?_
      exact SplRetN.bad hgf.out hko.out (grown_below B1 hg8 B1.size (by omega))
    · have c64 : (64 : Int) ≤ (c : Int) := by omega
      go_wp2_with fail
      have hft : Rd W1 W1.heap.size 1 A 64 (bcells (l.take 64)) := by
        have h1 := ((h.below B1).more B1.size).front (k := 64) (by omega)
        have e1 : (bcells l).take (64 * 1) = bcells (l.take 64) := by simp [bcells]
        rwa [e1] at h1
      obtain ⟨V, hV⟩ : ∃ V, V = hdVal (l.take 64) := ⟨_, rfl⟩
      have okV : V.ok := by rw [hV]; exact hdVal_ok _
      have hV35 : Hid ((hdCells V).toArray.size = 35) := Lib.hid (by rw [List.size_toArray, hdCells_length V okV.dig])
      have HV := Lib.hid hV
      have hvs : V.size < 4294967296 := okV.size
      refine (mOf_any A 64 c (by omega) (l.take 64) W1 hft).mono ?_
      rintro e W2 ⟨rfl, hB2⟩
      rw [← HV.out]
      have hbX2 := hbX.below hB2 hbX.lt
      have hbH2 := hbH.below hB2 hbH.lt
      have B2 := B1.trans (hB2.mono B1.size)
      clear hV hbX hbH B1 hB2 c0 hft hb0
      have hb0 := run_hd0
      have st : ∀ W3, Blk W3 (w.heap.size + 1) 51 (hdCells V).toArray → W2.grownBy W3 (some (w.heap.size + 1)) → Below w.heap.size w W3 ∧ Blk W3 w.heap.size 22 #[.slice A n c] := fun W3 h1 h2 =>
        ⟨grown_below B2 h2 B2.size (by omega), hbX2.grown h2 (by simp)⟩
      cases hg : hdGood (l.take 64) with
      | false =>
        have hE : hdErr (l.take 64) = 150 := by rw [hdErr, hg]; rfl
        have hgf : Hid (splGood l o = false) := Lib.hid (by simp [splGood, hg])
        rw [hE]
        clear hE hg
        go_wp2_with (first
          | ((with_reducible refine at_store 51 ?_); refine wpList_storeAll W2 rfl 51 _ _ rfl (w.heap.size + 1) 51 _ (hdCells V).toArray hbH2 rfl rfl (by rw [hV35.out, h35.out]) (by rw [hV35.out]; exact inf_hd) (hdCells_one V) ?_; intro W3 hb3 hg3 hs3; obtain ⟨B3, hbX3⟩ := st W3 hb3 hg3; clear st hg3 hs3)
          | ((with_reducible refine at_store 51 ?_); refine wpList_storeAll _ rfl 51 _ _ rfl (w.heap.size + 1) 51 _ (hdCells zhd).toArray hb3 rfl rfl (by rw [hV35.out, h35.out]) (by rw [h35.out]; exact inf_hd) (hdCells_one zhd) ?_; intro w8 hb8 hg8 hs8))
        refine bodyPost_ret (results_cell_tmp4 rfl _ _ (w.heap.size + 1) _ _ _ _ rfl hb8 Tryz.underlying51 rfl (by rw [h35.out]; exact inf_hd)) rfl ?_
        exact SplRetN.bad hgf.out hko.out (grown_below B3 hg8 B3.size (by omega))
      | true =>
        have hE : hdErr (l.take 64) = 0 := by rw [hdErr, hg]; rfl
        rw [hE]
        have HG := Lib.hid hg
        have hw1 : IntKind.u64.wrap ((n : Int) - 64 - (S : Int)) = ((n - 64 - S : Nat) : Int) := by rw [IntWalk.u64_in _ (by omega)]; omega
        have hw2 : IntKind.u64.wrap (V.size : Int) = (V.size : Int) := IntWalk.u64_in _ (by omega)
        clear hE hg
        by_cases hsz : n - 64 - S = V.size
        · have hCC : (l.drop (64 + S)).take (n - (64 + S)) = l.drop (64 + S) := List.take_of_length_le (by rw [List.length_drop]; have := HL.out; omega)
          have HCC := Lib.hid hCC
          have hgd : Hid (splGood l o = true) := Lib.hid (by
            have h1 := HS.out; have h2 := HL.out; have h3 := HV.out; have h4 := HK.out; have h5 := HG.out
            have h6 : 64 + sigSize o ≤ l.length := by omega
            have h7 : l.length - 64 - sigSize o = (hdVal (l.take 64)).size := by rw [← h1, ← h2, ← h3]; exact hsz
            simp [splGood, h4, h5, h6, h7])
          have heq : ((((n - 64 - S : Nat) : Int)) != (V.size : Int)) = false := by simp; omega
          clear hCC hko
          obtain ⟨b, off, rfl, _, _⟩ := h.range (by omega)
          go_wp2_with ((with_reducible refine at_store 51 ?_); refine wpList_storeAll W2 rfl 51 _ _ rfl (w.heap.size + 1) 51 _ (hdCells V).toArray hbH2 rfl rfl (by rw [hV35.out, h35.out]) (by rw [hV35.out]; exact inf_hd) (hdCells_one V) ?_; intro W3 hb3 hg3 hs3; obtain ⟨B3, hbX3⟩ := st W3 hb3 hg3; clear st hg3 hs3; have c3 : W3.cell? ⟨w.heap.size, 0, none⟩ = some (.slice (some ⟨b, off, none⟩) n c) := (hbX3.cell 0).trans rfl; have c4 : W3.cell? ⟨w.heap.size + 1, 1, none⟩ = some (.int .u32 (V.size : Int)) := (hb3.cell 1).trans rfl)
          have hN3 : w.heap.size + 2 ≤ W3.drew.heap.size := hb3.lt
          have hR3 := (h.below B3).drew
          clear hbX2 hbH2 B2 hz hb0 hw1 hw2 heq c3 c4
          refine Flow.wp_region_flow (w.heap.size) [(13, fun b => b = w.heap.size + 1)] [(0, fun W => Blk W (w.heap.size + 1) 51 ((hdCells V).toArray)), (2, fun W => Blk W w.heap.size 22 (#[.slice (some ⟨b, off, none⟩) n c])), (6, fun W => Blk W w.heap.size 22 (#[.slice (some ⟨b, off, none⟩) n c])), (10, fun W => Blk W w.heap.size 22 (#[.slice (some ⟨b, off, none⟩) n c])), (12, fun W => Blk W w.heap.size 22 (#[.slice (some ⟨b, off, none⟩) n c])), (13, fun W => Blk W (w.heap.size + 1) 51 ((hdCells V).toArray))] (by kernel_rfl) (by kernel_rfl) B3.drew.size (Flow.nz_cons (by rintro b rfl; exact Nat.le_succ _) Flow.nz_nil) (Flow.facts_cons (hb3.drew) (Flow.kept_blk id) (Flow.fz_cons (Flow.no_follow (by kernel_rfl)) Flow.fz_nil) (Flow.facts_cons (hbX3.drew) (Flow.kept_blk id) (Flow.fz_cons (Flow.no_follow (by kernel_rfl)) Flow.fz_nil) (Flow.facts_cons (hbX3.drew) (Flow.kept_blk id) (Flow.fz_cons (Flow.no_follow (by kernel_rfl)) Flow.fz_nil) (Flow.facts_cons (hbX3.drew) (Flow.kept_blk id) (Flow.fz_cons (Flow.no_follow (by kernel_rfl)) Flow.fz_nil) (Flow.facts_cons (hbX3.drew) (Flow.kept_blk id) (Flow.fz_cons (Flow.no_follow (by kernel_rfl)) Flow.fz_nil) (Flow.facts_cons (hb3.drew) (Flow.kept_blk id) (Flow.fz_cons (Flow.no_follow (by kernel_rfl)) Flow.fz_nil) Flow.facts_nil)))))) ?_
          refine Flow.pass_val (.agg (hdCells V).toArray) (Flow.met_none rfl) (fun a W hH => ?_) ?_
          · have e0 := Flow.see_old 4 hH.sees (by kernel_rfl) (by kernel_rfl) rfl
            have fa0 : (fun W => Blk W (w.heap.size + 1) 51 ((hdCells V).toArray)) W := hH.fact _ (List.mem_of_getElem? (i := 0) rfl) rfl
            exact reg_load 51 _ rfl e0 fa0 Tryz.underlying51 rfl (by rw [hV35.out]; exact inf_hd)
          refine Flow.pass_old (X := .func (.func 110) #[] #[.pointer (some ⟨w.heap.size, 0, none⟩)]) 11 (Flow.met_none rfl) (.inl rfl) (by kernel_rfl) (by kernel_rfl) rfl ?_
          refine Flow.pass_gen (fun v W => ∃ A k, v = .slice A (64) k ∧ W.ownsRow (w.heap.size + 2) 5 1 (.slice A (64) k) (64) (bcells (l.take 64))) (Flow.kept_of (fun _ _ _ c ⟨A, k, h1, h2⟩ => ⟨A, k, h1, own_chg h2 c (fun _ _ => id)⟩) (Flow.kz_cons (fun _ => fun _ _ _ c ⟨A, k, h1, h2⟩ => ⟨A, k, h1, own_chg h2 c (fun k hk e => by have := (h2.lt k hk).1; have e2 : k = w.heap.size + 1 := e; omega)⟩) Flow.kz_nil)) (Flow.met_none rfl) (fun a W hH => ?_) ?_
          · have e0 := Flow.see_new 49 1 hH.sees (by kernel_rfl) (by kernel_rfl) rfl rfl
            have fa1 : (fun W => Blk W w.heap.size 22 (#[.slice (some ⟨b, off, none⟩) n c])) W := hH.fact _ (List.mem_of_getElem? (i := 1) rfl) rfl
            refine Flow.wp_callF rfl e0 Tryz.func110 rfl (by kernel_rfl) (by simp [Act.eval]) (split1' w.heap.size b off n c hc l (0) (64) (0) (64) (by omega) (by omega) (by omega) (by omega) hn W fa1 ((hR3.below hH.below).more (Nat.le_trans B3.size hH.below.size))) ?_
            rintro e w' ⟨A9, c9, rfl, hO, hB⟩
            have hw2 : w.heap.size + 2 ≤ W.heap.size := Nat.le_trans hN3 hH.below.size
            rw [List.drop_zero] at hO
            exact ⟨_, rfl, Chg.of_ext hB, A9, c9, rfl, own_baseI hO hw2⟩
          refine Flow.pass_old (X := .func (.func 110) #[] #[.pointer (some ⟨w.heap.size, 0, none⟩)]) 11 (Flow.met_none rfl) (.inl rfl) (by kernel_rfl) (by kernel_rfl) rfl ?_
          refine Flow.pass_old (X := .int .i64 (S : Int)) 9 (Flow.met_none rfl) (.inl rfl) (by kernel_rfl) (by kernel_rfl) rfl ?_
          refine Flow.pass_val (.int .i64 (64 + (S : Int))) (Flow.met_none rfl) (fun a W hH => ?_) ?_
          · have e0 := Flow.see_new 52 4 hH.sees (by kernel_rfl) (by kernel_rfl) rfl rfl
            go_simp; first | done | rfl | (rw [IntWalk.i64_in _ (by omega)]; first | done | rfl | omega | (simp; done))
          refine Flow.pass_gen (fun v W => ∃ A k, v = .slice A (S) k ∧ W.ownsRow (w.heap.size + 2) 5 1 (.slice A (S) k) (S) (bcells ((l.drop 64).take S))) (Flow.kept_of (fun _ _ _ c ⟨A, k, h1, h2⟩ => ⟨A, k, h1, own_chg h2 c (fun _ _ => id)⟩) (Flow.kz_cons (fun _ => fun _ _ _ c ⟨A, k, h1, h2⟩ => ⟨A, k, h1, own_chg h2 c (fun k hk e => by have := (h2.lt k hk).1; have e2 : k = w.heap.size + 1 := e; omega)⟩) Flow.kz_nil)) (Flow.met_none rfl) (fun a W hH => ?_) ?_
          · have e0 := Flow.see_new 51 3 hH.sees (by kernel_rfl) (by kernel_rfl) rfl rfl
            have e1 := Flow.see_new 53 5 hH.sees (by kernel_rfl) (by kernel_rfl) rfl rfl
            have fa2 : (fun W => Blk W w.heap.size 22 (#[.slice (some ⟨b, off, none⟩) n c])) W := hH.fact _ (List.mem_of_getElem? (i := 2) rfl) rfl
            refine Flow.wp_callF rfl e0 Tryz.func110 rfl (by kernel_rfl) (by simp [Act.eval, e1]) (split1' w.heap.size b off n c hc l (64) (64 + (S : Int)) (64) (64 + S) (by omega) (by omega) (by omega) (by omega) hn W fa2 ((hR3.below hH.below).more (Nat.le_trans B3.size hH.below.size))) ?_
            rintro e w' ⟨A9, c9, rfl, hO, hB⟩
            have hw2 : w.heap.size + 2 ≤ W.heap.size := Nat.le_trans hN3 hH.below.size
            rw [show 64 + S - 64 = S by omega] at hO ⊢
            exact ⟨_, rfl, Chg.of_ext hB, A9, c9, rfl, own_baseI hO hw2⟩
          refine Flow.pass_old (X := .func (.func 110) #[] #[.pointer (some ⟨w.heap.size, 0, none⟩)]) 11 (Flow.met_none rfl) (.inl rfl) (by kernel_rfl) (by kernel_rfl) rfl ?_
          refine Flow.pass_old (X := .int .i64 (S : Int)) 9 (Flow.met_none rfl) (.inl rfl) (by kernel_rfl) (by kernel_rfl) rfl ?_
          refine Flow.pass_val (.int .i64 (64 + (S : Int))) (Flow.met_none rfl) (fun a W hH => ?_) ?_
          · have e0 := Flow.see_new 56 8 hH.sees (by kernel_rfl) (by kernel_rfl) rfl rfl
            go_simp; first | done | rfl | (rw [IntWalk.i64_in _ (by omega)]; first | done | rfl | omega | (simp; done))
          refine Flow.pass_val (.slice (some ⟨b, off, none⟩) n c) (Flow.met_none rfl) (fun a W hH => ?_) ?_
          · have e0 := Flow.see_old 2 hH.sees (by kernel_rfl) (by kernel_rfl) rfl
            have fa3 : (fun W => Blk W w.heap.size 22 (#[.slice (some ⟨b, off, none⟩) n c])) W := hH.fact _ (List.mem_of_getElem? (i := 3) rfl) rfl
            have cc : World.cell? W ⟨w.heap.size, 0, none⟩ = some (.slice (some ⟨b, off, none⟩) n c) := (fa3.cell 0).trans rfl; go_simp
          refine Flow.pass_val (.int .i64 (n : Int)) (Flow.met_none rfl) (fun a W hH => ?_) ?_
          · have e0 := Flow.see_new 58 10 hH.sees (by kernel_rfl) (by kernel_rfl) rfl rfl
            go_simp; first | done | rfl
          refine Flow.pass_gen (fun v W => ∃ A k, v = .slice A (n - (64 + S)) k ∧ W.ownsRow (w.heap.size + 2) 5 1 (.slice A (n - (64 + S)) k) (n - (64 + S)) (bcells (l.drop (64 + S)))) (Flow.kept_of (fun _ _ _ c ⟨A, k, h1, h2⟩ => ⟨A, k, h1, own_chg h2 c (fun _ _ => id)⟩) (Flow.kz_cons (fun _ => fun _ _ _ c ⟨A, k, h1, h2⟩ => ⟨A, k, h1, own_chg h2 c (fun k hk e => by have := (h2.lt k hk).1; have e2 : k = w.heap.size + 1 := e; omega)⟩) Flow.kz_nil)) (Flow.met_none rfl) (fun a W hH => ?_) ?_
          · have e0 := Flow.see_new 55 7 hH.sees (by kernel_rfl) (by kernel_rfl) rfl rfl
            have e1 := Flow.see_new 57 9 hH.sees (by kernel_rfl) (by kernel_rfl) rfl rfl
            have e2 := Flow.see_new 59 11 hH.sees (by kernel_rfl) (by kernel_rfl) rfl rfl
            have fa4 : (fun W => Blk W w.heap.size 22 (#[.slice (some ⟨b, off, none⟩) n c])) W := hH.fact _ (List.mem_of_getElem? (i := 4) rfl) rfl
            refine Flow.wp_callF rfl e0 Tryz.func110 rfl (by kernel_rfl) (by simp [Act.eval, e1, e2]) (split1' w.heap.size b off n c hc l (64 + (S : Int)) ((n : Int)) (64 + S) (n) (by omega) (by omega) (by omega) (by omega) hn W fa4 ((hR3.below hH.below).more (Nat.le_trans B3.size hH.below.size))) ?_
            rintro e w' ⟨A9, c9, rfl, hO, hB⟩
            have hw2 : w.heap.size + 2 ≤ W.heap.size := Nat.le_trans hN3 hH.below.size
            rw [HCC.out] at hO
            exact ⟨_, rfl, Chg.of_ext hB, A9, c9, rfl, own_baseI hO hw2⟩
          refine Flow.pass_list (fun _ W => Blk W (w.heap.size + 1) 51 (hdCells V).toArray) (Flow.kept_of (fun _ _ _ c h => h.chg c id) (Flow.kz_cons (Flow.no_follow (by kernel_rfl)) Flow.kz_nil)) (Flow.met_none rfl) (fun a W hH => ?_) ?_
          · have e0 := Flow.see_old 4 hH.sees (by kernel_rfl) (by kernel_rfl) rfl
            have e1 := Flow.see_new 48 0 hH.sees (by kernel_rfl) (by kernel_rfl) rfl rfl
            have fa5 : (fun W => Blk W (w.heap.size + 1) 51 ((hdCells V).toArray)) W := hH.fact _ (List.mem_of_getElem? (i := 5) rfl) rfl
            refine wpList_storeAll W rfl 51 _ _ rfl (w.heap.size + 1) 51 _ (hdCells V).toArray fa5 (by simpa [Act.eval] using e0) (by simpa [Act.eval] using e1) rfl (by rw [hV35.out]; exact inf_hd) (hdCells_one V) ?_
            intro W2 h2 hg _
            exact Flow.qq_nil ⟨_, rfl, Chg.grown hg (by rintro k h; cases h; rfl), h2⟩
          refine Flow.pass_copy 50 2 (Flow.met_none rfl) (.inr rfl) (by kernel_rfl) (by kernel_rfl) rfl rfl (Flow.kept_of (fun _ _ _ c ⟨A, k, h1, h2⟩ => ⟨A, k, h1, own_chg h2 c (fun _ _ => id)⟩) (Flow.kz_cons (Flow.no_follow (by kernel_rfl)) Flow.kz_nil)) ?_
          refine Flow.pass_copy 54 6 (Flow.met_none rfl) (.inr rfl) (by kernel_rfl) (by kernel_rfl) rfl rfl (Flow.kept_of (fun _ _ _ c ⟨A, k, h1, h2⟩ => ⟨A, k, h1, own_chg h2 c (fun _ _ => id)⟩) (Flow.kz_cons (Flow.no_follow (by kernel_rfl)) Flow.kz_nil)) ?_
          refine Flow.pass_copy 60 12 (Flow.met_none rfl) (.inr rfl) (by kernel_rfl) (by kernel_rfl) rfl rfl (Flow.kept_of (fun _ _ _ c ⟨A, k, h1, h2⟩ => ⟨A, k, h1, own_chg h2 c (fun _ _ => id)⟩) (Flow.kz_cons (Flow.no_follow (by kernel_rfl)) Flow.kz_nil)) ?_
          apply Flow.pass_val (hm := (Flow.met_none rfl))
          · intro a W hH
            go_simp; first | done | rfl
          refine Flow.pass_end [none, none, none, none, none, some 5, some 6, some 7, some 8, none, none, none, none, none, none, none, none, none, none, none, none, none, none, none, none, none, none, none, none, none, none, none, none, none, none, none, none, none, none, none, none, none, none, none, none, none, none, none, some 48, some 49, some 50, some 51, some 52, some 53, some 54, some 55, some 56, some 57, some 58, some 59, some 60] (by kernel_rfl) ?_
          intro f gg w9 hB hfa hT hfg
          obtain ⟨A5, k5, h5, g5⟩ := hT 14 _ (by kernel_rfl) rfl
          rw [← hfg 5 14 (by kernel_rfl)] at h5
          obtain ⟨A6, k6, h6, g6⟩ := hT 15 _ (by kernel_rfl) rfl
          rw [← hfg 6 15 (by kernel_rfl)] at h6
          obtain ⟨A7, k7, h7, g7⟩ := hT 16 _ (by kernel_rfl) rfl
          rw [← hfg 7 16 (by kernel_rfl)] at h7
          have h8 : f 8 = _ := (hfg 8 17 (by kernel_rfl)).trans (hT 17 _ (by kernel_rfl) rfl)
          have hb9 : Blk w9 (w.heap.size + 1) 51 (hdCells V).toArray := hT 13 _ (by kernel_rfl) rfl
          have B9 := B3.drew.trans hB
          simp only [Reg.sel, h5, h6, h7, h8]
          clear hT hfg hfa hB h5 h6 h7 h8
          go_wp2
          refine bodyPost_ret (results_cell_tmp4 rfl _ _ (w.heap.size + 1) _ _ _ _ rfl hb9 Tryz.underlying51 rfl (by rw [hV35.out]; exact inf_hd)) rfl ?_
          have e1 : splA l o = l.take 64 := by rw [splA, if_pos hgd.out]
          have e2 : splB l o = (l.drop 64).take S := by rw [splB, if_pos hgd.out, HS.out]
          have e3 : splC l o = l.drop (64 + S) := by rw [splC, if_pos hgd.out, HS.out]
          have e4 : splHd l o = V := by rw [splHd, if_pos hgd.out, HV.out]
          have e5 : splErr l o = 0 := by rw [splErr, if_pos hgd.out]
          have l1 : (l.take 64).length = 64 := by rw [List.length_take]; have := HL.out; omega
          have l2 : ((l.drop 64).take S).length = S := by rw [List.length_take, List.length_drop]; have := HL.out; omega
          have l3 : (l.drop (64 + S)).length = n - (64 + S) := by rw [List.length_drop]; have := HL.out; omega
          unfold SplRetN
          rw [e1, e2, e3, e4, e5, l1, l2, l3]
          exact ⟨_, _, _, _, _, _, rfl, Rd.of_own g5, Rd.of_own g6, Rd.of_own g7, B9, own_capI g5, own_capI g6, own_capI g7, fun y hy => by
            have hw3 := B3.size
            have d3 : W3.drew.heap.size = W3.heap.size := rfl
            rcases hy with hy | hy | hy
            · have := own_newI g5 y hy; omega
            · have := own_newI g6 y hy; omega
            · have := own_newI g7 y hy; omega, own_u8 g7⟩
        · have hgf : Hid (splGood l o = false) := Lib.hid (by
            have h1 := HS.out; have h2 := HL.out; have h3 := HV.out
            have : ¬ (l.length - 64 - sigSize o = (hdVal (l.take 64)).size) := by rw [← h1, ← h2, ← h3]; exact hsz
            simp [splGood, this])
          have hne : ((((n - 64 - S : Nat) : Int)) != (V.size : Int)) = true := by simp; omega
          go_wp2_with (first
            | ((with_reducible refine at_store 51 ?_); refine wpList_storeAll W2 rfl 51 _ _ rfl (w.heap.size + 1) 51 _ (hdCells V).toArray hbH2 rfl rfl (by rw [hV35.out, h35.out]) (by rw [hV35.out]; exact inf_hd) (hdCells_one V) ?_; intro W3 hb3 hg3 hs3; obtain ⟨B3, hbX3⟩ := st W3 hb3 hg3; clear st hg3 hs3; have c3 : W3.cell? ⟨w.heap.size, 0, none⟩ = some (.slice A n c) := (hbX3.cell 0).trans rfl; have c4 : W3.cell? ⟨w.heap.size + 1, 1, none⟩ = some (.int .u32 (V.size : Int)) := (hb3.cell 1).trans rfl)
            | ((with_reducible refine at_store 51 ?_); refine wpList_storeAll _ rfl 51 _ _ rfl (w.heap.size + 1) 51 _ (hdCells zhd).toArray hb3 rfl rfl (by rw [hV35.out, h35.out]) (by rw [h35.out]; exact inf_hd) (hdCells_one zhd) ?_; intro w8 hb8 hg8 hs8))
          refine bodyPost_ret (results_cell_tmp4 rfl _ _ (w.heap.size + 1) _ _ _ _ rfl hb8 Tryz.underlying51 rfl (by rw [h35.out]; exact inf_hd)) rfl ?_
          exact SplRetN.bad hgf.out hko.out (grown_below B3 hg8 B3.size (by omega))
end Go.Proofs.YtipdmhppadapkaaGreatDoor
/-
  Walk: portreeveref14.Split.
-/
namespace Go.Proofs.YtipdmhppadapkaaGreatDoor
open Go.RowKit

end Go.Proofs.YtipdmhppadapkaaGreatDoor
