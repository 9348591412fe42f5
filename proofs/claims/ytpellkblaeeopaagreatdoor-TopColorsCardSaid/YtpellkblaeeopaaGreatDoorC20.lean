/-
  Parts: ImgA ImgB GeJ.
-/
import Derived.Test.YtpellkblaeeopaaGreatDoorC03
import Derived.Lib.ConvBytes
import Derived.Test.YtpellkblaeeopaaGreatDoorC19
import Derived.Lib.LazyBuf
/-
  Walks: whether a text is a name (cfg.Name, portreeveref14.Name).
-/
namespace Go.Proofs.YtpellkblaeeopaaGreatDoor
open Go.RowKit

def nmB (c : UInt8) : Bool := decide ((97 ≤ c.toNat ∧ c.toNat ≤ 122) ∨ (48 ≤ c.toNat ∧ c.toNat ≤ 57) ∨ c.toNat = 45)
def nmOk (l : List UInt8) : Bool := l.all nmB && decide (1 ≤ l.length) && decide (l.length ≤ 16)
theorem nm_class (c : UInt8) : (97 ≤ (c.toNat : Int) ∧ (c.toNat : Int) ≤ 122 ∧ nmB c = true) ∨ (122 < (c.toNat : Int) ∧ nmB c = false) ∨ (57 < (c.toNat : Int) ∧ (c.toNat : Int) < 97 ∧ nmB c = false) ∨
    (48 ≤ (c.toNat : Int) ∧ (c.toNat : Int) ≤ 57 ∧ nmB c = true) ∨ ((c.toNat : Int) = 45 ∧ nmB c = true) ∨ ((c.toNat : Int) < 48 ∧ (c.toNat : Int) ≠ 45 ∧ nmB c = false) := by
  unfold nmB
  simp only [decide_eq_true_eq, decide_eq_false_iff_not]
  omega
theorem all_take (l : List UInt8) (k : Nat) (h : k < l.length) (c : UInt8) (hc : l[k]? = some c) : (l.take (k + 1)).all nmB = ((l.take k).all nmB && nmB c) := by
  rw [List.take_succ_eq_append_getElem h, List.all_append]
  rw [List.getElem?_eq_getElem h] at hc
  cases hc
  simp
theorem all_no (l : List UInt8) (k : Nat) (c : UInt8) (hc : l[k]? = some c) (h : nmB c = false) : nmOk l = false := by
  have : l.all nmB = false := by
    rw [List.all_eq_false]
    exact ⟨c, List.mem_of_getElem? hc, by simp [h]⟩
  simp [nmOk, this]
theorem addr_lit0 (g k : Nat) : (⟨g, 0, none⟩ : Addr).add k = ⟨g, k, none⟩ := by unfold Addr.add; split <;> simp_all
theorem run_bytes (w : World) {src dst e : TypeId} (l : List UInt8) (hs : Tryz.prog.underlying src = some .string) (hd : Tryz.prog.underlying dst = some (.slice e)) (he : Tryz.prog.underlying e = some (.int .u8)) :
    ∃ c W, (convert src dst (.string ⟨l.toArray⟩)).run Tryz.prog w = .ok (.slice (some ⟨w.heap.size, 0, none⟩) l.length c) W ∧ Rd W W.heap.size 1 (some ⟨w.heap.size, 0, none⟩) l.length (bcells l) ∧ Below w.heap.size w W := by
  refine ⟨_, _, Lib.run_convert_string_bytes w src dst e ⟨l.toArray⟩ hs hd he, ⟨by simp [bcells], fun k v hv => ?_⟩, ?_⟩
  · have hk := (List.getElem?_eq_some_iff.1 hv).1
    rw [bcells_length] at hk
    refine ⟨_, rfl, by rw [Lib.bytesWorld_size]; exact Nat.lt_succ_self _, ?_⟩
    rw [addr_lit0]
    rw [Lib.bytesWorld_cell w e ⟨l.toArray⟩ k (by exact hk)]
    rw [bcells_get l k hk] at hv
    rw [← hv]
    simp [List.getD]
  · exact ⟨rfl, rfl, rfl, by rw [Lib.bytesWorld_size]; omega, fun j hj => Lib.bytesWorld_at_old w e _ j hj⟩
section
variable {P : Program} {ops : Array Oper} {rest : List Oper} {o : Oper} {a : Act} {Q : Exit → Act → World → Prop}
theorem wpList_convV (w : World) {src dst : TypeId} (hgd : o.guard = none) (x : Operand) (ho : o.op = .convert src dst x) (v X : Value) (w' : World) (hx : a.eval x = v) (hrun : (convert src dst v).run P w = .ok X w')
    (h : wpList P ops Q rest (a.put o.dst X) w') : wpList P ops Q (o :: rest) a w := by
  refine wpList_plain hgd fun K hK => ?_
  unfold Oper.wp
  simp [execOp, ho, hx, hrun, Result.andThen]
  exact hK _ _ h
end
end Go.Proofs.YtpellkblaeeopaaGreatDoor
/-
  Walks: cfg.Name and portreeveref14.Name: whether a text is a name.
-/
namespace Go.Proofs.YtpellkblaeeopaaGreatDoor
open Go.RowKit

theorem name_end (l : List UInt8) (h : (l.take l.length).all nmB = true) (b : Bool) (hb : b = (decide (1 ≤ l.length) && decide (l.length ≤ 16))) : nmOk l = b := by
  rw [List.take_length] at h
  rw [hb, nmOk, h]; simp

set_option maxRecDepth 100000 in
set_option maxHeartbeats 2000000 in
theorem mName_any (l : List UInt8) (hs : l.length ≤ 9223372036854775807) (w : World) :
    Calls Tryz.prog 99 #[.string ⟨l.toArray⟩] w fun e w' => e = .returned (.bool (nmOk l)) ∧ Below w.heap.size w w' := by
  obtain ⟨N, hN⟩ : ∃ N, N = nmOk l := ⟨_, rfl⟩
  rw [← hN]
  have HN := Lib.hid hN
  clear hN
  obtain ⟨c, W, hrun, hR, hB⟩ := run_bytes w (src := 9) (dst := 73) (e := 5) l Tryz.underlying9 Tryz.underlying73 Tryz.underlying5
  go_enter Tryz.func99, Tryz.ntmps99
  go_wp2_with ((with_reducible refine at_conv ?_); refine wpList_convV w rfl _ rfl _ _ _ rfl hrun ?_)
  go_loop [8] (fun i => ∃ k : Nat, k ≤ l.length ∧ i = .int .i64 k ∧ Hid ((l.take k).all nmB = true)) (fun i => l.length - (intOf i).toNat)
  case atStart => exact ⟨0, Nat.zero_le _, rfl, Lib.hid rfl⟩
  case round =>
    obtain ⟨k, hk, rfl, hall⟩ := hrel
    by_cases hlt : k < l.length
    · have hyes : Hid (nmB l[k] = true → (l.take (k + 1)).all nmB = true) := Lib.hid (fun h => by rw [all_take _ _ hlt _ (List.getElem?_eq_getElem hlt), hall.out, h]; rfl)
      have hno : Hid (nmB l[k] = false → N = false) := Lib.hid (fun h => by rw [HN.out]; exact all_no _ k _ (List.getElem?_eq_getElem hlt) h)
      have hc : W.cell? ⟨w.heap.size, k, none⟩ = some (.int .u8 (l[k].toNat : Int)) := by
        obtain ⟨a, ha, _, h⟩ := hR.cell k (.int .u8 (l[k].toNat : Int)) (by simp [bcells, hlt])
        cases ha; rw [addr_lit0] at h; exact h
      obtain ⟨cc, hcc⟩ : ∃ c, c = l[k] := ⟨_, rfl⟩
      rw [← hcc] at hc hyes hno
      have HCC := Lib.hid hcc
      clear hcc
      rcases nm_class cc with ⟨h1, h2, h3⟩ | ⟨h1, h3⟩ | ⟨h1, h2, h3⟩ | ⟨h1, h2, h3⟩ | ⟨h1, h3⟩ | ⟨h1, h2, h3⟩
      · have H3 := Lib.hid (hyes.out h3)
        clear h3 hyes hno
        go_wp2
        go_round
        case rel => exact ⟨k + 1, by omega, by go_num, H3⟩
        case measure => simp [intOf]; omega
      · have H3 := Lib.hid (hno.out h3)
        clear h3 hyes hno
        have d1 : decide ((cc.toNat : Int) ≤ 122) = false := by simp; omega
        have d2 : decide ((cc.toNat : Int) ≤ 57) = false := by simp; omega
        have e1 : (((cc.toNat : Nat) : Int) == 45) = false := by simp; omega
        have e2 : (((cc.toNat : Nat) : Int) != 45) = true := by simp; omega
        go_wp2
        go_ret
        exact ⟨by rw [H3.out]; rfl, hB⟩
      · have H3 := Lib.hid (hno.out h3)
        clear h3 hyes hno
        have d2 : decide ((cc.toNat : Int) ≤ 57) = false := by simp; omega
        have e1 : (((cc.toNat : Nat) : Int) == 45) = false := by simp; omega
        have e2 : (((cc.toNat : Nat) : Int) != 45) = true := by simp; omega
        go_wp2
        go_ret
        exact ⟨by rw [H3.out]; rfl, hB⟩
      · have H3 := Lib.hid (hyes.out h3)
        clear h3 hyes hno
        go_wp2
        go_round
        case rel => exact ⟨k + 1, by omega, by go_num, H3⟩
        case measure => simp [intOf]; omega
      · have H3 := Lib.hid (hyes.out h3)
        clear h3 hyes hno
        go_wp2
        go_round
        case rel => exact ⟨k + 1, by omega, by go_num, H3⟩
        case measure => simp [intOf]; omega
      · have H3 := Lib.hid (hno.out h3)
        clear h3 hyes hno
        have e1 : (((cc.toNat : Nat) : Int) == 45) = false := by simp; omega
        have e2 : (((cc.toNat : Nat) : Int) != 45) = true := by simp; omega
        go_wp2
        go_ret
        exact ⟨by rw [H3.out]; rfl, hB⟩
    · obtain rfl : k = l.length := by omega
      have HEh : Hid (∀ b : Bool, b = (decide (1 ≤ l.length) && decide (l.length ≤ 16)) → N = b) := Lib.hid fun b hb => by rw [HN.out]; exact name_end l hall.out b hb
      clear hall
      by_cases h0 : 1 ≤ l.length
      · have he : l.isEmpty = false := by cases l; simp at h0; rfl
        have he2 : l ≠ [] := by rintro rfl; simp at h0
        by_cases h16 : l.length ≤ 16
        · have hd : decide ((l.length : Int) ≤ 16) = true := by simp; omega
          go_wp2
          go_ret
          exact ⟨by rw [HEh.out true (by simp; omega)]; first | done | rfl, hB⟩
        · have hd : decide ((l.length : Int) ≤ 16) = false := by simp; omega
          go_wp2
          go_ret
          exact ⟨by rw [HEh.out false (by simp; omega)]; first | done | rfl, hB⟩
      · have he : l = [] := by cases l; rfl; simp at h0
        subst he
        go_wp2
        go_ret
        exact ⟨by rw [HEh.out false rfl]; first | done | rfl, hB⟩
end Go.Proofs.YtpellkblaeeopaaGreatDoor
/-
  Walk for awake35: cfg.writer.guest.
-/
namespace Go.Proofs.YtpellkblaeeopaaGreatDoor
open Go.RowKit

theorem kpt_chg {G : Nat} {W0 W W' : World} {Z : Nat → Prop} (h : KpT G W0 W) (c : Chg Z W W') (hz : ∀ X t cs, t ≠ 5 → X ≠ G → Blk W0 X t cs → ¬ Z X) (hl : ∀ b, Z b → G ≤ b) (hG : G ≤ W0.heap.size) : KpT G W0 W' :=
  ⟨h.below.trans (c.below hl (Nat.le_trans hG h.below.size)), fun X t cs h1 h2 hX => (h.blk X t cs h1 h2 hX).chg c (hz X t cs h1 h2 hX)⟩
def pad16E (s : List UInt8) : List UInt8 := s ++ List.replicate (16 - s.length) 0
theorem pad16E_length (s : List UInt8) (h : s.length ≤ 16) : (pad16E s).length = 16 := by simp [pad16E]; omega
def z16E : Array Value := (bcells (List.replicate 16 0)).toArray
theorem zero16E (w : World) : (zeroValue 209).run Tryz.prog w = .ok (.agg z16E) w := by kernel_rfl
theorem copy_spliceE (name : List UInt8) (h : name.length ≤ 16) : splice (bcells (List.replicate 16 0)) 0 (bcells name) = bcells (pad16E name) := by
  have e : List.replicate 16 (0 : UInt8) = List.replicate name.length 0 ++ List.replicate (16 - name.length) 0 := by
    rw [List.replicate_append_replicate]; congr 1; omega
  rw [splice, e, bcells_append, pad16E, bcells_append, List.take_zero, List.nil_append, Nat.zero_add, List.drop_left' (by simp [bcells_length])]
theorem run_copyNameE (w : World) (ty : TypeId) (g : Nat) (name : List UInt8) (h : name.length ≤ 16) (hb : Blk w g 209 z16E) :
    ∃ W, (Builtin.copy_ #[73, 9] ty #[.slice (some ⟨g, 0, none⟩) 16 16, .string ⟨name.toArray⟩]).run Tryz.prog w = .ok (goInt name.length) W ∧ Blk W g 209 (bcells (pad16E name)).toArray ∧ w.grownBy W (some g) := by
  have hs : z16E.size = 16 := by simp [z16E, bcells_length]
  have hcell : ∀ j, j < name.length → (w.cell? ⟨g, 0 + j, none⟩).isSome = true ∧ w.frozen? ⟨g, 0 + j, none⟩ = false := fun j hj => by
    rw [Nat.zero_add, hb.cell, Array.getElem?_eq_getElem (by omega)]; exact ⟨rfl, hb.frozen j⟩
  refine ⟨_, run_copy_string (P := Tryz.prog) w 73 9 ty 5 g 0 16 16 ⟨name.toArray⟩ Tryz.underlying73 (fun _ => by kernel_rfl) (by exact h) (fun j hj => (hcell j hj).1) (fun j hj => (hcell j hj).2), ?_⟩
  obtain ⟨h1, h2, _⟩ := Blk.setCells (bcells name) 0 w z16E hb (by rw [bcells_length, hs]; omega)
  refine ⟨?_, h2⟩
  rw [show z16E.toList = bcells (List.replicate 16 0) from rfl, copy_spliceE name h] at h1
  exact h1
section
variable {P : Program} {o : Oper} {a : Act} {w w' : World}
theorem reg_copyE {x y : Tmp} {t t' : TypeId} {v u r : Value} (ho : o.op = .call { callee := .builtin .copy, args := #[.tmp x, .tmp y], argTypes := #[t, t'] }) (hx : a.tmps[x]?.getD undef = v) (hy : a.tmps[y]?.getD undef = u)
    (hr : (Builtin.copy_ #[t, t'] o.type #[v, u]).run P w = .ok r w') : (execOp a.eval o).run P w = .ok (.value r) w' := by
  simp [execOp, ho, Act.eval, hx, hy, resolve, invoke, builtin, hr]
end
section
variable {t e : TypeId} {k : IntKind} {bytes : Nat}
theorem run_n1 (E : Elem Tryz.prog t e (.int k 0) 1 bytes) (w : World) (a : Int) (_hb : bytes ≤ 8 := by omega) : (Instr.buildSlice t 1 #[(0, .int k a)]).run Tryz.prog w = .ok (.slice (some ⟨w.heap.size, 0, none⟩) 1 1) (w.alloc (.cells #[.int k a] e)) := by
  have := run_buildSlice_all (P := Tryz.prog) w E 1 #[(0, .int k a)] [.int k a] rfl rfl (by omega) (by omega) (by simp [Value.cells])
  simpa [flat, Value.cells] using this
theorem run_n2 (E : Elem Tryz.prog t e (.int k 0) 1 bytes) (w : World) (a b : Int) (_hb : bytes ≤ 8 := by omega) : (Instr.buildSlice t 2 #[(0, .int k a), (1, .int k b)]).run Tryz.prog w = .ok (.slice (some ⟨w.heap.size, 0, none⟩) 2 2) (w.alloc (.cells #[.int k a, .int k b] e)) := by
  have := run_buildSlice_all (P := Tryz.prog) w E 2 #[(0, .int k a), (1, .int k b)] [.int k a, .int k b] rfl rfl (by omega) (by omega) (by simp [Value.cells])
  simpa [flat, Value.cells] using this
theorem run_n3 (E : Elem Tryz.prog t e (.int k 0) 1 bytes) (w : World) (a b c : Int) (_hb : bytes ≤ 8 := by omega) : (Instr.buildSlice t 3 #[(0, .int k a), (1, .int k b), (2, .int k c)]).run Tryz.prog w = .ok (.slice (some ⟨w.heap.size, 0, none⟩) 3 3) (w.alloc (.cells #[.int k a, .int k b, .int k c] e)) := by
  have := run_buildSlice_all (P := Tryz.prog) w E 3 #[(0, .int k a), (1, .int k b), (2, .int k c)] [.int k a, .int k b, .int k c] rfl rfl (by omega) (by omega) (by simp [Value.cells])
  simpa [flat, Value.cells] using this
theorem run_n4 (E : Elem Tryz.prog t e (.int k 0) 1 bytes) (w : World) (a b c d : Int) (_hb : bytes ≤ 8 := by omega) : (Instr.buildSlice t 4 #[(0, .int k a), (1, .int k b), (2, .int k c), (3, .int k d)]).run Tryz.prog w = .ok (.slice (some ⟨w.heap.size, 0, none⟩) 4 4) (w.alloc (.cells #[.int k a, .int k b, .int k c, .int k d] e)) := by
  have := run_buildSlice_all (P := Tryz.prog) w E 4 #[(0, .int k a), (1, .int k b), (2, .int k c), (3, .int k d)] [.int k a, .int k b, .int k c, .int k d] rfl rfl (by omega) (by omega) (by simp [Value.cells])
  simpa [flat, Value.cells] using this
end
theorem elI64 : Elem Tryz.prog 207 3 (.int .i64 0) 1 8 := Elem.of (by kernel_rfl) (by kernel_rfl) rfl (by omega)
theorem elU64e : Elem Tryz.prog 33 22 (.int .u64 0) 1 8 := Elem.of (by kernel_rfl) (by kernel_rfl) rfl (by omega)
/-- a writer between two calls: how many bytes it has at most -/
structure PSw (w : World) (g n hi : Nat) (W : World) : Prop where
  ex : ∃ l : List UInt8, n ≤ l.length ∧ l.length ≤ n + hi ∧ PgT 170 g l W
  k : KpT g w W
theorem PSw.lt {w : World} {g n hi : Nat} {W : World} (h : PSw w g n hi W) : g < W.heap.size := by obtain ⟨_, _, _, h⟩ := h.ex; exact h.lt
theorem PSw.ext {w : World} {g n hi : Nat} {W W' : World} (h : PSw w g n hi W) (e : Ext W W') : PSw w g n hi W' := by
  obtain ⟨⟨l, h1, h2, h3⟩, hk⟩ := h
  exact ⟨⟨l, h1, h2, h3.ext e⟩, hk.trans (KpT.of_ext e (Nat.le_of_lt h3.lt))⟩
theorem PSw.app {w V W : World} {g n hi k : Nat} {L X : List UInt8} (h1 : n ≤ L.length) (h2 : L.length ≤ n + hi) (hX : X.length = k) (hk : k ≤ 100) (h : ∃ A c, Blk W g 170 #[.slice A (L.length + k) c] ∧ W.ownsRow g 5 1 (.slice A (L.length + k) c) (L.length + k) (bcells (L ++ X))) (hkw : KpT g w V) (hk2 : KpT g V W) : PSw w g n (hi + 100) W := by
  obtain ⟨A, c, h3, h4⟩ := h
  have e : L.length + k = (L ++ X).length := by rw [List.length_append, hX]
  rw [e] at h3 h4
  exact ⟨⟨L ++ X, by rw [List.length_append]; omega, by rw [List.length_append]; omega, A, c, h3, h4⟩, hkw.trans hk2⟩
theorem four_ws (w : World) (g n hi x m : Nat) (xs : List Nat) (hm : xs.length = m) (hm1 : m ≤ 10) (W : World) (hp : PSw w g n hi W) (hn : n + hi ≤ 100000) (hx : Blk W x 51 (xs.map fun (x : Nat) => Value.int .u32 (x : Int)).toArray) :
    Calls Tryz.prog 74 #[.pointer (some ⟨g, 0, none⟩), .slice (some ⟨x, 0, none⟩) m m] W fun e w' => e = .returned (.tuple #[]) ∧ PSw w g n (hi + 100) w' ∧ KpT g W w' := by
  obtain ⟨⟨l, h1, h2, h3⟩, hk⟩ := hp
  refine (four_any g l (by omega) (some ⟨x, 0, none⟩) m m xs (by omega) W h3 (by have := hx.rd (size := 1) (n := m) (by simp [hm]); simpa using this)).mono ?_
  rintro e w' ⟨he, g3, hK⟩
  exact ⟨he, ⟨⟨_, by rw [List.length_append]; omega, by rw [List.length_append, putAll_length]; omega, g3⟩, hk.trans hK⟩, hK⟩
theorem eight_ws (w : World) (g n hi x m : Nat) (xs : List Nat) (hm : xs.length = m) (hm1 : m ≤ 10) (W : World) (hp : PSw w g n hi W) (hn : n + hi ≤ 100000) (hx : Blk W x 22 (xs.map fun (x : Nat) => Value.int .u64 (x : Int)).toArray) :
    Calls Tryz.prog 77 #[.pointer (some ⟨g, 0, none⟩), .slice (some ⟨x, 0, none⟩) m m] W fun e w' => e = .returned (.tuple #[]) ∧ PSw w g n (hi + 100) w' ∧ KpT g W w' := by
  obtain ⟨⟨l, h1, h2, h3⟩, hk⟩ := hp
  refine (eight_any g l (by omega) (some ⟨x, 0, none⟩) m m xs (by omega) W h3 (by have := hx.rd (size := 1) (n := m) (by simp [hm]); simpa using this)).mono ?_
  rintro e w' ⟨he, g3, hK⟩
  exact ⟨he, ⟨⟨_, by rw [List.length_append]; omega, by rw [List.length_append, putAll_length]; omega, g3⟩, hk.trans hK⟩, hK⟩
theorem two_ws (w : World) (g n hi x m : Nat) (xs : List Nat) (hm : xs.length = m) (hm1 : m ≤ 10) (hxs : ∀ n ∈ xs, n < 65536) (W : World) (hp : PSw w g n hi W) (hn : n + hi ≤ 100000) (hx : Blk W x 3 (xs.map fun (x : Nat) => Value.int .i64 (x : Int)).toArray) :
    Calls Tryz.prog 75 #[.pointer (some ⟨g, 0, none⟩), .slice (some ⟨x, 0, none⟩) m m] W fun e w' => e = .returned (.tuple #[]) ∧ PSw w g n (hi + 100) w' ∧ KpT g W w' := by
  obtain ⟨⟨l, h1, h2, h3⟩, hk⟩ := hp
  refine (two_any g x l (by omega) m xs (Lib.hid hm) (by omega) hxs W h3 hx).mono ?_
  rintro e w' ⟨he, g3, hK⟩
  exact ⟨he, ⟨⟨_, by rw [List.length_append]; omega, by rw [List.length_append, twoB_len]; omega, g3⟩, hk.trans hK⟩, hK⟩
set_option maxRecDepth 100000 in
set_option maxHeartbeats 8000000 in
theorem wguest_any (g : Nat) (nm : List UInt8) (hnm : nmOk nm = true) (cm pa nq cpu b1 b2 b3 : Nat) (hnq : nq < 1000) (hcpu : cpu < 100) (w w0 : World) (n0 hi : Nat) (hhi : n0 + hi ≤ 50000) (hp : PSw w g n0 hi w0)
    (h1 : Blk w0 b1 165 (winC pa)) (h2 : Blk w0 b2 167 (irqC nq cpu)) (h3 : Blk w0 b3 51 #[.int .u32 (cpu : Int)]) (gc : Array Value) (hG : GC gc ⟨nm.toArray⟩ cm b1 b2 b3) :
    Calls Tryz.prog 76 #[.pointer (some ⟨g, 0, none⟩), .agg gc] w0 fun e w' => e = .returned (.tuple #[]) ∧ PSw w g n0 (hi + 2000) w' ∧ KpT g w0 w' := by
  have hgw := hp.lt
  have hn : ∀ b t cs, t ≠ 170 → Blk w0 b t cs → b ≠ g := fun b t cs ht hb e => by
    obtain ⟨l, _, _, A, c, h, _⟩ := hp.ex
    subst e
    unfold Blk at h hb
    rw [h] at hb
    injection hb with hb
    injection hb with _ hb
    exact ht hb.symm
  have hn1 : b1 ≠ g := hn _ _ _ (by decide) h1
  have hn2 : b2 ≠ g := hn _ _ _ (by decide) h2
  have hn3 : b3 ≠ g := hn _ _ _ (by decide) h3
  clear hn
  have hnm16 : nm.length ≤ 16 := by simp only [nmOk, Bool.and_eq_true, decide_eq_true_eq] at hnm; exact hnm.2
  go_enter Tryz.func76, Tryz.ntmps76
  go_wp2_with ((with_reducible refine at_box 121 ?_); refine wpList_boxO w0 rfl rfl gc rfl ?_; intro W0 B0 hE0 hB0 hb0; have cc0 := (hb0.cell 0).trans hG.c0)
  refine (mName_any nm (by omega) W0).mono ?_
  rintro e W1 ⟨rfl, hB1⟩
  rw [hnm]
  have hE1 : Ext w0 W1 := hE0.trans hB1
  have hb1 := hb0.ext hB1
  clear cc0 hb0
  go_wp2_with fail
  refine (must_any _ _ _).mono ?_
  rintro e W2 ⟨rfl, rfl⟩
  go_wp2_with ((with_reducible refine at_alloc 209 ?_); refine wpList_allocO W2 rfl rfl _ zero16E ?_; intro V3 BN hE3 hBN hbN)
  have hb3 := hb1.ext hE3
  simp only [Act.put, List.setIfInBounds_toArray, List.set_cons_succ, List.set_cons_zero]
  refine Flow.wp_region_flow (BN) [(3, fun b => b = BN)] [(3, fun W => Blk W BN 209 z16E), (2, fun W => Chg (fun _ => False) V3 W), (4, fun W => Chg (fun b => b = BN) V3 W)] (by kernel_rfl) (by kernel_rfl) (Nat.le_of_lt hbN.lt) (Flow.nz_cons (by rintro b rfl; exact Nat.le_refl _) Flow.nz_nil) (Flow.facts_cons (hbN.drew) (Flow.kept_blk id) (Flow.fz_cons (Flow.no_follow (by kernel_rfl)) Flow.fz_nil) (Flow.facts_cons ((Chg.refl _ _).drew) (fun _ _ c h => h.trans c) (Flow.fz_cons (Flow.no_follow (by kernel_rfl)) Flow.fz_nil) (Flow.facts_cons ((Chg.refl _ _).drew) (fun _ _ c h => h.trans (c.mono (fun _ h => h.elim))) (Flow.fz_cons (fun _ => fun _ _ c h => h.trans c) Flow.fz_nil) Flow.facts_nil)))  ?_
  refine Flow.pass_val (.slice (some ⟨BN, 0, none⟩) 16 16) (Flow.met_none rfl) (fun a W hH => ?_) ?_
  · have e0 := Flow.see_old 4 hH.sees (by kernel_rfl) (by kernel_rfl) rfl
    go_simp; first | done | rfl
  refine Flow.pass_val (.pointer (some ⟨B0, 0, none⟩)) (Flow.met_none rfl) (fun a W hH => ?_) ?_
  · have e0 := Flow.see_old 3 hH.sees (by kernel_rfl) (by kernel_rfl) rfl
    go_simp; first | done | rfl
  refine Flow.pass_val (.string ⟨nm.toArray⟩) (Flow.met_none rfl) (fun a W hH => ?_) ?_
  · have e0 := Flow.see_new 16 1 hH.sees (by kernel_rfl) (by kernel_rfl) rfl rfl
    have fa1 : (fun W => Chg (fun _ => False) V3 W) W := hH.fact _ (List.mem_of_getElem? (i := 1) rfl) rfl
    have cc : World.cell? W ⟨B0, 0, none⟩ = some (.string ⟨nm.toArray⟩) := ((hb3.chg fa1 id).cell 0).trans hG.c0; go_simp
  refine Flow.pass_gen (fun _ W => Blk W BN 209 (bcells (pad16E nm)).toArray) (Flow.kept_of (fun _ _ _ c h => h.chg c id) (Flow.kz_cons (Flow.no_follow (by kernel_rfl)) Flow.kz_nil)) (Flow.met_none rfl) (fun a W hH => ?_) ?_
  · have e0 := Flow.see_new 15 0 hH.sees (by kernel_rfl) (by kernel_rfl) rfl rfl
    have e1 := Flow.see_new 17 2 hH.sees (by kernel_rfl) (by kernel_rfl) rfl rfl
    have fa0 : (fun W => Blk W BN 209 z16E) W := hH.fact _ (List.mem_of_getElem? (i := 0) rfl) rfl
    obtain ⟨W2, hrun, h2, hg⟩ := run_copyNameE W 3 BN nm hnm16 fa0
    refine Flow.wp_run (reg_copyE rfl e0 e1 hrun) ?_
    exact ⟨_, rfl, Chg.grown hg (by rintro k h; cases h; rfl), h2⟩
  refine Flow.pass_end [none, none, none, none, none, none, none, none, none, none, none, none, none, none, none, some 15, some 16, some 17, some 18, none, none, none, none, none, none, none, none, none, none, none, none, none, none, none, none, none, none, none, none, none, none, none, none, none, none, none, none, none, none, none, none, none, none, none, none, none, none, none, none, none, none, none, none, none, none, none, none, none, none, none, none, none, none, none, none, none, none, none, none, none, none, none, none, none, none, none, none, none, none, none, none, none, none, none, none, none, none, none, none, none, none, none, none, none, none, none, none, none, none, none, none, none, none, none, none, none, none, none, none, none, none, none, none, none, none, none, none, none, none, none, none, none, none, none, none, none, none, none, none, none, none, none, none, none, none, none, none, none, none, none, none, none, none, none, none, none, none, none, none, none, none, none, none, none, none, none, none, none, none, none, none, none] (by kernel_rfl) ?_
  intro f gg w9 hB hfa hT hfg
  have F2 : (fun W => Chg (fun b => b = BN) V3 W) w9 := hfa _ (List.mem_of_getElem? (i := 2) rfl) (Nat.le_refl _)
  have hbN4 := hT 3 _ (by kernel_rfl) rfl
  have hE4 : Ext W2 w9 := Below.trans hE3 (F2.below (n := W2.heap.size) (by rintro b rfl; exact hBN) hE3.size)
  have hb4 := hb1.ext hE4
  have hps4 := hp.ext (hE1.trans hE4)
  have hk04 := KpT.of_ext (hE1.trans hE4) (Nat.le_of_lt hgw)
  simp only [Reg.sel]
  clear hT hfg hfa hB F2 hbN hb3 hE3 hE1 hb1 hE0 hB1 hp
  obtain ⟨V4, rfl⟩ : ∃ V, V = w9 := ⟨_, rfl⟩
  obtain ⟨⟨L, hL1, hL2, ⟨A, c, hbw, hO⟩⟩, hkw⟩ := hps4
  have hzg : ¬ (Value.slice A L.length c).ownBlock = some g := fun e => own_ne hO hbw (by decide) e rfl
  have hgw4 := hbw.lt
  have hgW := Nat.le_of_lt hgw4
  have hgB : B0 ≠ g := by omega
  go_wp2_with fail
  refine Flow.wp_region_flow (g) [(6, fun b => (Value.slice A L.length c).ownBlock = some b), (9, fun b => b = g)] [(4, fun W => Blk W g 170 #[.slice A L.length c]), (6, fun W => W.ownsRow g 5 1 (.slice A L.length c) L.length (bcells L)), (6, fun W => Blk W BN 209 (bcells (pad16E nm)).toArray), (9, fun W => Blk W g 170 #[.slice A L.length c]), (10, fun W => KpT g V4 W)] (by kernel_rfl) (by kernel_rfl) hgW (Flow.nz_cons (fun b hb => (hO.lt b hb).1) (Flow.nz_cons (by rintro b rfl; exact Nat.le_refl _) Flow.nz_nil)) (Flow.facts_cons (hbw.drew) (Flow.kept_blk id) (Flow.fz_cons (Flow.no_follow (by kernel_rfl)) (Flow.fz_cons (Flow.no_follow (by kernel_rfl)) Flow.fz_nil)) (Flow.facts_cons (hO.drew) (Flow.kept_own (fun _ _ => id)) (Flow.fz_cons (Flow.no_follow (by kernel_rfl)) (Flow.fz_cons (Flow.no_follow (by kernel_rfl)) Flow.fz_nil)) (Flow.facts_cons (hbN4.drew) (Flow.kept_blk id) (Flow.fz_cons (Flow.no_follow (by kernel_rfl)) (Flow.fz_cons (Flow.no_follow (by kernel_rfl)) Flow.fz_nil)) (Flow.facts_cons (hbw.drew) (Flow.kept_blk id) (Flow.fz_cons (fun _ => Flow.kept_blk hzg) (Flow.fz_cons (Flow.no_follow (by kernel_rfl)) Flow.fz_nil)) (Flow.facts_cons ((KpT.refl _ _).drew) (fun _ _ c h => kpt_chg h c (fun _ _ _ _ _ _ => id) (fun _ h => h.elim) hgW) (Flow.fz_cons (fun _ => fun _ _ c h => kpt_chg h c (fun X t cs h1 h2 hX hz => own_ne hO hX h1 hz rfl) (fun b hb => (hO.lt b hb).1) hgW) (Flow.fz_cons (fun _ => fun _ _ c h => kpt_chg h c (fun X t cs h1 h2 hX hz => h2 hz) (fun b hb => by have hb : b = g := hb; omega) hgW) Flow.fz_nil)) Flow.facts_nil)))))  ?_
  refine Flow.pass_old (X := .pointer (some ⟨g, 0, none⟩)) 0 (Flow.met_none rfl) (.inl rfl) (by kernel_rfl) (by kernel_rfl) rfl ?_
  refine Flow.pass_old (X := .pointer (some ⟨g, 0, none⟩)) 0 (Flow.met_none rfl) (.inl rfl) (by kernel_rfl) (by kernel_rfl) rfl ?_
  refine Flow.pass_val (.pointer (some ⟨g, 0, none⟩)) (Flow.met_none rfl) (fun a W hH => ?_) ?_
  · have e0 := Flow.see_new 20 1 hH.sees (by kernel_rfl) (by kernel_rfl) rfl rfl
    go_simp; first | done | rfl
  refine Flow.pass_val (.pointer (some ⟨g, 0, none⟩)) (Flow.met_none rfl) (fun a W hH => ?_) ?_
  · have e0 := Flow.see_new 21 2 hH.sees (by kernel_rfl) (by kernel_rfl) rfl rfl
    go_simp; first | done | rfl
  refine Flow.pass_val (.slice A L.length c) (Flow.met_none rfl) (fun a W hH => ?_) ?_
  · have e0 := Flow.see_new 22 3 hH.sees (by kernel_rfl) (by kernel_rfl) rfl rfl
    have fa0 : (fun W => Blk W g 170 #[.slice A L.length c]) W := hH.fact _ (List.mem_of_getElem? (i := 0) rfl) rfl
    have cc : World.cell? W ⟨g, 0, none⟩ = some (.slice A L.length c) := (fa0.cell 0).trans rfl; go_simp; first | done | rfl
  refine Flow.pass_val (.slice (some ⟨BN, 0, none⟩) 16 16) (Flow.met_none rfl) (fun a W hH => ?_) ?_
  · have e0 := Flow.see_old 4 hH.sees (by kernel_rfl) (by kernel_rfl) rfl
    go_simp; first | done | rfl
  refine Flow.pass_list (fun v W => ∃ A1 c1, v = .slice A1 (L.length + 16) c1 ∧ W.ownsRow g 5 1 (.slice A1 (L.length + 16) c1) (L.length + 16) (bcells (L ++ (pad16E nm))) ∧ ∀ b, (Value.slice A1 (L.length + 16) c1).ownBlock = some b → ¬ b = g) (Flow.kept_of (fun _ _ _ c ⟨A1, c1, h1, h2, h3⟩ => ⟨A1, c1, h1, own_chg h2 c (fun _ _ => id), h3⟩) (Flow.kz_cons (Flow.no_follow (by kernel_rfl)) (Flow.kz_cons (fun _ => fun _ _ _ c ⟨A1, c1, h1, h2, h3⟩ => ⟨A1, c1, h1, own_chg h2 c h3, h3⟩) Flow.kz_nil))) (Flow.met_none rfl) (fun a W hH => ?_) ?_
  · have e0 := Flow.see_new 23 4 hH.sees (by kernel_rfl) (by kernel_rfl) rfl rfl
    have e1 := Flow.see_new 24 5 hH.sees (by kernel_rfl) (by kernel_rfl) rfl rfl
    have fa1 : (fun W => W.ownsRow g 5 1 (.slice A L.length c) L.length (bcells L)) W := hH.fact _ (List.mem_of_getElem? (i := 1) rfl) rfl
    have fa2 : (fun W => Blk W BN 209 (bcells (pad16E nm)).toArray) W := hH.fact _ (List.mem_of_getElem? (i := 2) rfl) rfl
    refine wpList_app W elB rfl _ _ rfl g A L.length c _ (by simpa [Act.eval] using e0) fa1 W.heap.size (some ⟨BN, 0, none⟩) 16 16 (bcells (pad16E nm)) (by simpa [Act.eval] using e1) (fa2.rd (size := 1) (n := 16) (by rw [List.size_toArray, bcells_length, pad16E_length _ hnm16])) (bcells_one _) (by omega) (by omega) (Nat.le_trans hgW hH.below.size) ?_
    intro A1 c1 W2 hO2 hg hB hob
    have hgs : g < W.heap.size := Nat.lt_of_lt_of_le hgw4 hH.below.size
    exact Flow.qq_nil ⟨_, rfl, Chg.grown hg (fun b hb => hb), A1, c1, rfl, (by rw [bcells_app]; exact hO2), fun b hb e => by subst e; rcases hob with h | h; exact hzg (h.symm.trans hb); rw [hb] at h; have := Option.some.inj h; omega⟩
  refine Flow.pass_val (.pointer (some ⟨g, 0, none⟩)) (Flow.met_none rfl) (fun a W hH => ?_) ?_
  · have e0 := Flow.see_new 19 0 hH.sees (by kernel_rfl) (by kernel_rfl) rfl rfl
    go_simp; first | done | rfl
  refine Flow.pass_val (.pointer (some ⟨g, 0, none⟩)) (Flow.met_none rfl) (fun a W hH => ?_) ?_
  · have e0 := Flow.see_new 26 7 hH.sees (by kernel_rfl) (by kernel_rfl) rfl rfl
    go_simp; first | done | rfl
  refine Flow.pass_gen (fun _ W => ∃ A1 c1, Blk W g 170 #[.slice A1 (L.length + 16) c1] ∧ W.ownsRow g 5 1 (.slice A1 (L.length + 16) c1) (L.length + 16) (bcells (L ++ (pad16E nm)))) (Flow.kept_of (fun _ _ _ c ⟨A1, c1, h1, h2⟩ => ⟨A1, c1, h1.chg c id, own_chg h2 c (fun _ _ => id)⟩) (Flow.kz_cons (Flow.no_follow (by kernel_rfl)) (Flow.kz_cons (Flow.no_follow (by kernel_rfl)) Flow.kz_nil))) (Flow.met_none rfl) (fun a W hH => ?_) ?_
  · have e0 := Flow.see_new 27 8 hH.sees (by kernel_rfl) (by kernel_rfl) rfl rfl
    obtain ⟨A11, c11, e1, q1⟩ := Flow.see_up 25 6 hH.sees (by kernel_rfl) (by kernel_rfl) rfl rfl
    have fa3 : (fun W => Blk W g 170 #[.slice A L.length c]) W := hH.fact _ (List.mem_of_getElem? (i := 3) rfl) rfl
    refine wp_skip (reg_storeSlice rfl (by kernel_rfl) fa3 e0 e1 (by simp)) ?_
    exact ⟨_, rfl, Chg.grown (grown_setE _ _ _ _) (by rintro k h; cases h; rfl), A11, c11, fa3.set_ 0 _, own_chg q1.1 (Chg.grown (Z := fun b => b = g) (grown_setE _ _ _ _) (by rintro k h; cases h; rfl)) (fun b hb e => q1.2 b hb e)⟩
  refine Flow.pass_end [none, none, none, none, none, none, none, none, none, none, none, none, none, none, none, none, none, none, none, some 19, some 20, some 21, some 22, some 23, some 24, some 25, some 26, some 27, none, none, none, none, none, none, none, none, none, none, none, none, none, none, none, none, none, none, none, none, none, none, none, none, none, none, none, none, none, none, none, none, none, none, none, none, none, none, none, none, none, none, none, none, none, none, none, none, none, none, none, none, none, none, none, none, none, none, none, none, none, none, none, none, none, none, none, none, none, none, none, none, none, none, none, none, none, none, none, none, none, none, none, none, none, none, none, none, none, none, none, none, none, none, none, none, none, none, none, none, none, none, none, none, none, none, none, none, none, none, none, none, none, none, none, none, none, none, none, none, none, none, none, none, none, none, none, none, none, none, none, none, none, none, none, none, none, none, none, none, none, none, none, none] (by kernel_rfl) ?_
  intro f gg w9 hB hfa hT hfg
  have F4 : (fun W => KpT g V4 W) w9 := hfa _ (List.mem_of_getElem? (i := 4) rfl) (Nat.le_refl _)
  have hps5 := PSw.app hL1 hL2 (pad16E_length nm hnm16) (by omega) (hT 9 _ (by kernel_rfl) rfl) hkw F4
  have hb5 := F4.blk B0 _ _ (by decide) hgB hb4
  have hk05 := hk04.trans F4
  simp only [Reg.sel]
  clear hT hfg hfa hB F4 hbN4 hb4 hk04 hkw hL1 hL2 hbw hO hzg hgw4 hgW hE4
  obtain ⟨V5, rfl⟩ : ∃ V, V = w9 := ⟨_, rfl⟩
  go_wp2_with fail
  refine Flow.wp_region_flow (g) [(11, fun b => g ≤ b)] [(2, fun W => Chg (fun _ => False) V5 W), (5, fun W => Chg (fun _ => False) V5 W), (7, fun W => Chg (fun _ => False) V5 W), (9, fun W => Chg (fun _ => False) V5 W), (11, fun W => Chg (fun _ => False) V5 W)] (by kernel_rfl) (by kernel_rfl) (Nat.le_of_lt hps5.lt) (Flow.nz_cons (fun b h => h) Flow.nz_nil) (Flow.facts_cons ((Chg.refl _ _).drew) (fun _ _ c h => h.trans c) (Flow.fz_cons (Flow.no_follow (by kernel_rfl)) Flow.fz_nil) (Flow.facts_cons ((Chg.refl _ _).drew) (fun _ _ c h => h.trans c) (Flow.fz_cons (Flow.no_follow (by kernel_rfl)) Flow.fz_nil) (Flow.facts_cons ((Chg.refl _ _).drew) (fun _ _ c h => h.trans c) (Flow.fz_cons (Flow.no_follow (by kernel_rfl)) Flow.fz_nil) (Flow.facts_cons ((Chg.refl _ _).drew) (fun _ _ c h => h.trans c) (Flow.fz_cons (Flow.no_follow (by kernel_rfl)) Flow.fz_nil) (Flow.facts_cons ((Chg.refl _ _).drew) (fun _ _ c h => h.trans c) (Flow.fz_cons (Flow.no_follow (by kernel_rfl)) Flow.fz_nil) Flow.facts_nil)))))  ?_
  refine Flow.pass_old (X := .pointer (some ⟨g, 0, none⟩)) 0 (Flow.met_none rfl) (.inl rfl) (by kernel_rfl) (by kernel_rfl) rfl ?_
  refine Flow.pass_val (.pointer (some ⟨B0, 1, none⟩)) (Flow.met_none rfl) (fun a W hH => ?_) ?_
  · have e0 := Flow.see_old 3 hH.sees (by kernel_rfl) (by kernel_rfl) rfl
    go_simp; first | done | rfl
  refine Flow.pass_val (.bool false) (Flow.met_none rfl) (fun a W hH => ?_) ?_
  · have e0 := Flow.see_new 29 1 hH.sees (by kernel_rfl) (by kernel_rfl) rfl rfl
    have fa0 : (fun W => Chg (fun _ => False) V5 W) W := hH.fact _ (List.mem_of_getElem? (i := 0) rfl) rfl
    have cc : World.cell? W ⟨B0, 1, none⟩ = some (.bool false) := ((hb5.chg fa0 id).cell 1).trans hG.c1; go_simp; first | done | rfl
  refine Flow.pass_step (Reg.eqs (.int .u32 0)) (fun _ _ => Flow.kept_eqs _ _) (Flow.met_none rfl) (fun a W hH => ?_) ?_
  · have e0 := Flow.see_new 30 2 hH.sees (by kernel_rfl) (by kernel_rfl) rfl rfl
    refine Reg.wp_call rfl Tryz.func100 rfl (by kernel_rfl) (by simp [Act.eval, e0]) (truth_any false W) ?_
    rintro e w' ⟨rfl, rfl⟩
    exact ⟨_, rfl, _, rfl, Ext.refl _, rfl⟩
  refine Flow.pass_val (.pointer (some ⟨B0, 2, none⟩)) (Flow.met_none rfl) (fun a W hH => ?_) ?_
  · have e0 := Flow.see_old 3 hH.sees (by kernel_rfl) (by kernel_rfl) rfl
    go_simp; first | done | rfl
  refine Flow.pass_val (.int .u32 (0)) (Flow.met_none rfl) (fun a W hH => ?_) ?_
  · have e0 := Flow.see_new 32 4 hH.sees (by kernel_rfl) (by kernel_rfl) rfl rfl
    have fa1 : (fun W => Chg (fun _ => False) V5 W) W := hH.fact _ (List.mem_of_getElem? (i := 1) rfl) rfl
    have cc : World.cell? W ⟨B0, 2, none⟩ = some (.int .u32 (0)) := (((hb5).chg fa1 id).cell (2)).trans hG.c2; go_simp; first | done | rfl
  refine Flow.pass_val (.pointer (some ⟨B0, 3, none⟩)) (Flow.met_none rfl) (fun a W hH => ?_) ?_
  · have e0 := Flow.see_old 3 hH.sees (by kernel_rfl) (by kernel_rfl) rfl
    go_simp; first | done | rfl
  refine Flow.pass_val (.int .u32 (0)) (Flow.met_none rfl) (fun a W hH => ?_) ?_
  · have e0 := Flow.see_new 34 6 hH.sees (by kernel_rfl) (by kernel_rfl) rfl rfl
    have fa2 : (fun W => Chg (fun _ => False) V5 W) W := hH.fact _ (List.mem_of_getElem? (i := 2) rfl) rfl
    have cc : World.cell? W ⟨B0, 3, none⟩ = some (.int .u32 (0)) := (((hb5).chg fa2 id).cell (3)).trans hG.c3; go_simp; first | done | rfl
  refine Flow.pass_val (.pointer (some ⟨B0, 4, none⟩)) (Flow.met_none rfl) (fun a W hH => ?_) ?_
  · have e0 := Flow.see_old 3 hH.sees (by kernel_rfl) (by kernel_rfl) rfl
    go_simp; first | done | rfl
  refine Flow.pass_val (.int .u32 (cm : Int)) (Flow.met_none rfl) (fun a W hH => ?_) ?_
  · have e0 := Flow.see_new 36 8 hH.sees (by kernel_rfl) (by kernel_rfl) rfl rfl
    have fa3 : (fun W => Chg (fun _ => False) V5 W) W := hH.fact _ (List.mem_of_getElem? (i := 3) rfl) rfl
    have cc : World.cell? W ⟨B0, 4, none⟩ = some (.int .u32 (cm : Int)) := (((hb5).chg fa3 id).cell (4)).trans hG.c4; go_simp; first | done | rfl
  refine Flow.pass_lin [11] (fun v W => ∃ b, v = .slice (some ⟨b, 0, none⟩) 4 4 ∧ Blk W b 51 (([0, 0, 0, cm] : List Nat).map fun (x : Nat) => Value.int .u32 (x : Int)).toArray) (Flow.kept_lin [11] (fun _ _ _ c ⟨b, h1, h2⟩ => ⟨b, h1, h2.chg c id⟩) (Flow.lz_cons (fun _ => .inl rfl) Flow.lz_nil)) (Flow.met_none rfl) (fun a W hH => ?_) ?_
  · have e0 := Flow.see_new 31 3 hH.sees (by kernel_rfl) (by kernel_rfl) rfl rfl
    have e1 := Flow.see_new 33 5 hH.sees (by kernel_rfl) (by kernel_rfl) rfl rfl
    have e2 := Flow.see_new 35 7 hH.sees (by kernel_rfl) (by kernel_rfl) rfl rfl
    have e3 := Flow.see_new 37 9 hH.sees (by kernel_rfl) (by kernel_rfl) rfl rfl
    refine Flow.wp_run (Flow.reg_buildSlice _ rfl (by simp [Act.eval, e0, e1, e2, e3]) (run_n4 elU32 W 0 0 0 (cm : Int))) ?_
    exact ⟨_, rfl, Chg.of_ext ((Ext.refl W).alloc _), W.heap.size, rfl, Blk.new _ _ _⟩
  refine Flow.pass_gen (fun v W => v = .tuple #[] ∧ (PSw w g n0 (hi + 100 + 100) W ∧ KpT g V5 W)) (Flow.kept_of (fun _ _ _ c ⟨h1, h2, h3⟩ => ⟨h1, h2.ext c.ext, h3.trans (KpT.of_ext c.ext (Nat.le_of_lt h2.lt))⟩) (Flow.kz_cons (Flow.no_follow (by kernel_rfl)) Flow.kz_nil)) (Flow.met_none rfl) (fun a W hH => ?_) ?_
  · have e0 := Flow.see_new 28 0 hH.sees (by kernel_rfl) (by kernel_rfl) rfl rfl
    obtain ⟨b1, e1, q1⟩ := Flow.see_lin 38 10 hH.sees (by kernel_rfl) (by kernel_rfl) rfl rfl (by kernel_rfl)
    have fa4 : (fun W => Chg (fun _ => False) V5 W) W := hH.fact _ (List.mem_of_getElem? (i := 4) rfl) rfl
    refine Flow.wp_callZ rfl Tryz.func74 rfl (by kernel_rfl) (by simp [Act.eval, e0, e1]) (four_ws w g n0 (hi + 100) b1 4 [0, 0, 0, cm] rfl (by omega) W (PSw.ext hps5 fa4.ext) (by omega) q1) ?_
    rintro e w' ⟨rfl, hp2, hK⟩
    exact ⟨_, rfl, Chg.of_below hK.below (fun _ h _ => h), rfl, hp2, (KpT.of_ext fa4.ext (Nat.le_of_lt hps5.lt)).trans hK⟩
  refine Flow.pass_end [none, none, none, none, none, none, none, none, none, none, none, none, none, none, none, none, none, none, none, none, none, none, none, none, none, none, none, none, some 28, some 29, some 30, some 31, some 32, some 33, some 34, some 35, some 36, some 37, some 38, some 39, none, none, none, none, none, none, none, none, none, none, none, none, none, none, none, none, none, none, none, none, none, none, none, none, none, none, none, none, none, none, none, none, none, none, none, none, none, none, none, none, none, none, none, none, none, none, none, none, none, none, none, none, none, none, none, none, none, none, none, none, none, none, none, none, none, none, none, none, none, none, none, none, none, none, none, none, none, none, none, none, none, none, none, none, none, none, none, none, none, none, none, none, none, none, none, none, none, none, none, none, none, none, none, none, none, none, none, none, none, none, none, none, none, none, none, none, none, none, none, none, none, none, none, none, none, none, none, none, none, none, none, none] (by kernel_rfl) ?_
  intro f gg w9 hB hfa hT hfg
  have h39 := hT 11 _ (by kernel_rfl) rfl
  rw [← hfg 39 11 (by kernel_rfl)] at h39
  obtain ⟨_, hps6, hK6⟩ := h39
  have hb6 := hK6.blk B0 _ _ (by decide) hgB hb5
  have hk06 := hk05.trans hK6
  simp only [Reg.sel]
  clear hT hfg hfa hB hK6 hb5 hk05 hps5
  obtain ⟨V6, rfl⟩ : ∃ V, V = w9 := ⟨_, rfl⟩
  have d5 := (hb6.cell 5).trans hG.c5
  have d6 := (hb6.cell 6).trans hG.c6
  go_wp2_with ((with_reducible refine at_buildSlice 33 ?_); refine wpList_bsO V6 rfl rfl #[(0, .int .u64 4096), (1, .int .u64 0)] _ (by simp [Act.eval]) (run_n2 elU64e V6 4096 0) ?_; intro U6 x6 hE6 hx6 hbx6)
  refine (eight_ws w g n0 (hi + 100 + 100) x6 2 [4096, 0] rfl (by omega) U6 (hps6.ext hE6) (by omega) hbx6).mono ?_
  rintro e V7 ⟨rfl, hps7, hK7⟩
  have hk67 := (KpT.of_ext hE6 (Nat.le_of_lt hps6.lt)).trans hK7
  have hb7 := hk67.blk B0 _ _ (by decide) hgB hb6
  have hk07 := hk06.trans hk67
  clear d5 d6 hE6 hx6 hbx6 hK7 hk67 hk06 hb6 hps6
  have hra : V7.rangeAt B0 7 keyA.toList := by
    intro j v hv
    rw [hb7.cell, Nat.add_comm 7 j]
    have hj : j < 68 := by have := (List.getElem?_eq_some_iff.1 hv).1; have e : keyA.toList.length = 68 := by kernel_rfl
                           omega
    rw [← hG.key, List.getElem?_take, if_pos hj, List.getElem?_drop] at hv
    rw [Nat.add_comm 7 j] at hv
    simpa using hv
  go_wp2_with ((with_reducible refine at_load 58 ?_); refine wpList_load_mid rfl 58 _ rfl B0 7 rfl keyA.toList _ hra Tryz.underlying58 rfl (by kernel_rfl) ?_)
  refine (keyed_any V7).mono ?_
  rintro e V8 ⟨rfl, hB8⟩
  have hps8 := hps7.ext hB8
  have hb8 := hb7.ext hB8
  have hk08 := hk07.trans (KpT.of_ext hB8 (Nat.le_of_lt hps7.lt))
  clear hra hps7 hb7 hk07 hB8
  go_wp2_with fail
  refine (must_any _ _ _).mono ?_
  rintro e V8' ⟨rfl, rfl⟩
  obtain ⟨V8, rfl⟩ : ∃ V, V = V8' := ⟨_, rfl⟩
  obtain ⟨⟨L, hL1, hL2, ⟨A, c, hbw, hO⟩⟩, hkw⟩ := hps8
  have hzg : ¬ (Value.slice A L.length c).ownBlock = some g := fun e => own_ne hO hbw (by decide) e rfl
  have hgw4 := hbw.lt
  have hgW := Nat.le_of_lt hgw4
  have hsl : ∀ W : World, (Instr.sliceAt 58 (.pointer (some ⟨B0, 7, none⟩)) none none none).run Tryz.prog W = .ok (.slice (some ⟨B0, 7, none⟩) 68 68) W := fun W => by kernel_rfl
  have hkey : (gc.toList.drop 7).take (68 * 1) = bcells keyL := hG.key
  go_wp2_with fail
  refine Flow.wp_region_flow (g) [(7, fun b => (Value.slice A L.length c).ownBlock = some b), (10, fun b => b = g)] [(4, fun W => Blk W g 170 #[.slice A L.length c]), (7, fun W => W.ownsRow g 5 1 (.slice A L.length c) L.length (bcells L)), (7, fun W => Blk W B0 121 gc), (10, fun W => Blk W g 170 #[.slice A L.length c]), (11, fun W => KpT g V8 W)] (by kernel_rfl) (by kernel_rfl) hgW (Flow.nz_cons (fun b hb => (hO.lt b hb).1) (Flow.nz_cons (by rintro b rfl; exact Nat.le_refl _) Flow.nz_nil)) (Flow.facts_cons (hbw.drew) (Flow.kept_blk id) (Flow.fz_cons (Flow.no_follow (by kernel_rfl)) (Flow.fz_cons (Flow.no_follow (by kernel_rfl)) Flow.fz_nil)) (Flow.facts_cons (hO.drew) (Flow.kept_own (fun _ _ => id)) (Flow.fz_cons (Flow.no_follow (by kernel_rfl)) (Flow.fz_cons (Flow.no_follow (by kernel_rfl)) Flow.fz_nil)) (Flow.facts_cons (hb8.drew) (Flow.kept_blk id) (Flow.fz_cons (Flow.no_follow (by kernel_rfl)) (Flow.fz_cons (Flow.no_follow (by kernel_rfl)) Flow.fz_nil)) (Flow.facts_cons (hbw.drew) (Flow.kept_blk id) (Flow.fz_cons (fun _ => Flow.kept_blk hzg) (Flow.fz_cons (Flow.no_follow (by kernel_rfl)) Flow.fz_nil)) (Flow.facts_cons ((KpT.refl _ _).drew) (fun _ _ c h => kpt_chg h c (fun _ _ _ _ _ _ => id) (fun _ h => h.elim) hgW) (Flow.fz_cons (fun _ => fun _ _ c h => kpt_chg h c (fun X t cs h1 h2 hX hz => own_ne hO hX h1 hz rfl) (fun b hb => (hO.lt b hb).1) hgW) (Flow.fz_cons (fun _ => fun _ _ c h => kpt_chg h c (fun X t cs h1 h2 hX hz => h2 hz) (fun b hb => by have hb : b = g := hb; omega) hgW) Flow.fz_nil)) Flow.facts_nil)))))  ?_
  refine Flow.pass_old (X := .pointer (some ⟨g, 0, none⟩)) 0 (Flow.met_none rfl) (.inl rfl) (by kernel_rfl) (by kernel_rfl) rfl ?_
  refine Flow.pass_old (X := .pointer (some ⟨g, 0, none⟩)) 0 (Flow.met_none rfl) (.inl rfl) (by kernel_rfl) (by kernel_rfl) rfl ?_
  refine Flow.pass_val (.pointer (some ⟨g, 0, none⟩)) (Flow.met_none rfl) (fun a W hH => ?_) ?_
  · have e0 := Flow.see_new 52 1 hH.sees (by kernel_rfl) (by kernel_rfl) rfl rfl
    go_simp; first | done | rfl
  refine Flow.pass_val (.pointer (some ⟨g, 0, none⟩)) (Flow.met_none rfl) (fun a W hH => ?_) ?_
  · have e0 := Flow.see_new 53 2 hH.sees (by kernel_rfl) (by kernel_rfl) rfl rfl
    go_simp; first | done | rfl
  refine Flow.pass_val (.slice A L.length c) (Flow.met_none rfl) (fun a W hH => ?_) ?_
  · have e0 := Flow.see_new 54 3 hH.sees (by kernel_rfl) (by kernel_rfl) rfl rfl
    have fa0 : (fun W => Blk W g 170 #[.slice A L.length c]) W := hH.fact _ (List.mem_of_getElem? (i := 0) rfl) rfl
    have cc : World.cell? W ⟨g, 0, none⟩ = some (.slice A L.length c) := (fa0.cell 0).trans rfl; go_simp; first | done | rfl
  refine Flow.pass_val (.pointer (some ⟨B0, 7, none⟩)) (Flow.met_none rfl) (fun a W hH => ?_) ?_
  · have e0 := Flow.see_old 3 hH.sees (by kernel_rfl) (by kernel_rfl) rfl
    go_simp; first | done | rfl
  refine Flow.pass_val (.slice (some ⟨B0, 7, none⟩) 68 68) (Flow.met_none rfl) (fun a W hH => ?_) ?_
  · have e0 := Flow.see_new 56 5 hH.sees (by kernel_rfl) (by kernel_rfl) rfl rfl
    simp [execOp, Act.eval, e0, hsl W, Result.andThen]
  refine Flow.pass_list (fun v W => ∃ A1 c1, v = .slice A1 (L.length + 68) c1 ∧ W.ownsRow g 5 1 (.slice A1 (L.length + 68) c1) (L.length + 68) (bcells (L ++ keyL)) ∧ ∀ b, (Value.slice A1 (L.length + 68) c1).ownBlock = some b → ¬ b = g) (Flow.kept_of (fun _ _ _ c ⟨A1, c1, h1, h2, h3⟩ => ⟨A1, c1, h1, own_chg h2 c (fun _ _ => id), h3⟩) (Flow.kz_cons (Flow.no_follow (by kernel_rfl)) (Flow.kz_cons (fun _ => fun _ _ _ c ⟨A1, c1, h1, h2, h3⟩ => ⟨A1, c1, h1, own_chg h2 c h3, h3⟩) Flow.kz_nil))) (Flow.met_none rfl) (fun a W hH => ?_) ?_
  · have e0 := Flow.see_new 55 4 hH.sees (by kernel_rfl) (by kernel_rfl) rfl rfl
    have e1 := Flow.see_new 57 6 hH.sees (by kernel_rfl) (by kernel_rfl) rfl rfl
    have fa1 : (fun W => W.ownsRow g 5 1 (.slice A L.length c) L.length (bcells L)) W := hH.fact _ (List.mem_of_getElem? (i := 1) rfl) rfl
    have fa2 : (fun W => Blk W B0 121 gc) W := hH.fact _ (List.mem_of_getElem? (i := 2) rfl) rfl
    refine wpList_app W elB rfl _ _ rfl g A L.length c _ (by simpa [Act.eval] using e0) fa1 W.heap.size (some ⟨B0, 7, none⟩) 68 68 (bcells keyL) (by simpa [Act.eval] using e1) ((by have := fa2.rdAt 1 7 68 (by rw [hG.size]; omega); rw [hkey] at this; exact this)) (bcells_one _) (by omega) (by omega) (Nat.le_trans hgW hH.below.size) ?_
    intro A1 c1 W2 hO2 hg hB hob
    have hgs : g < W.heap.size := Nat.lt_of_lt_of_le hgw4 hH.below.size
    exact Flow.qq_nil ⟨_, rfl, Chg.grown hg (fun b hb => hb), A1, c1, rfl, (by rw [bcells_app]; exact hO2), fun b hb e => by subst e; rcases hob with h | h; exact hzg (h.symm.trans hb); rw [hb] at h; have := Option.some.inj h; omega⟩
  refine Flow.pass_val (.pointer (some ⟨g, 0, none⟩)) (Flow.met_none rfl) (fun a W hH => ?_) ?_
  · have e0 := Flow.see_new 51 0 hH.sees (by kernel_rfl) (by kernel_rfl) rfl rfl
    go_simp; first | done | rfl
  refine Flow.pass_val (.pointer (some ⟨g, 0, none⟩)) (Flow.met_none rfl) (fun a W hH => ?_) ?_
  · have e0 := Flow.see_new 59 8 hH.sees (by kernel_rfl) (by kernel_rfl) rfl rfl
    go_simp; first | done | rfl
  refine Flow.pass_gen (fun _ W => ∃ A1 c1, Blk W g 170 #[.slice A1 (L.length + 68) c1] ∧ W.ownsRow g 5 1 (.slice A1 (L.length + 68) c1) (L.length + 68) (bcells (L ++ keyL))) (Flow.kept_of (fun _ _ _ c ⟨A1, c1, h1, h2⟩ => ⟨A1, c1, h1.chg c id, own_chg h2 c (fun _ _ => id)⟩) (Flow.kz_cons (Flow.no_follow (by kernel_rfl)) (Flow.kz_cons (Flow.no_follow (by kernel_rfl)) Flow.kz_nil))) (Flow.met_none rfl) (fun a W hH => ?_) ?_
  · have e0 := Flow.see_new 60 9 hH.sees (by kernel_rfl) (by kernel_rfl) rfl rfl
    obtain ⟨A11, c11, e1, q1⟩ := Flow.see_up 58 7 hH.sees (by kernel_rfl) (by kernel_rfl) rfl rfl
    have fa3 : (fun W => Blk W g 170 #[.slice A L.length c]) W := hH.fact _ (List.mem_of_getElem? (i := 3) rfl) rfl
    refine wp_skip (reg_storeSlice rfl (by kernel_rfl) fa3 e0 e1 (by simp)) ?_
    exact ⟨_, rfl, Chg.grown (grown_setE _ _ _ _) (by rintro k h; cases h; rfl), A11, c11, fa3.set_ 0 _, own_chg q1.1 (Chg.grown (Z := fun b => b = g) (grown_setE _ _ _ _) (by rintro k h; cases h; rfl)) (fun b hb e => q1.2 b hb e)⟩
  refine Flow.pass_end [none, none, none, none, none, none, none, none, none, none, none, none, none, none, none, none, none, none, none, none, none, none, none, none, none, none, none, none, none, none, none, none, none, none, none, none, none, none, none, none, none, none, none, none, none, none, none, none, none, none, none, some 51, some 52, some 53, some 54, some 55, some 56, some 57, some 58, some 59, some 60, none, none, none, none, none, none, none, none, none, none, none, none, none, none, none, none, none, none, none, none, none, none, none, none, none, none, none, none, none, none, none, none, none, none, none, none, none, none, none, none, none, none, none, none, none, none, none, none, none, none, none, none, none, none, none, none, none, none, none, none, none, none, none, none, none, none, none, none, none, none, none, none, none, none, none, none, none, none, none, none, none, none, none, none, none, none, none, none, none, none, none, none, none, none, none, none, none, none, none, none, none, none, none, none, none, none, none, none, none, none, none] (by kernel_rfl) ?_
  intro f gg w9 hB hfa hT hfg
  have F4 : (fun W => KpT g V8 W) w9 := hfa _ (List.mem_of_getElem? (i := 4) rfl) (Nat.le_refl _)
  have hps9 := PSw.app hL1 hL2 (show keyL.length = 68 from rfl) (by omega) (hT 10 _ (by kernel_rfl) rfl) hkw F4
  have hb9 := F4.blk B0 _ _ (by decide) hgB hb8
  have hk09 := hk08.trans F4
  simp only [Reg.sel]
  clear hT hfg hfa hB F4 hb8 hk08 hkw hL1 hL2 hbw hO hzg hgw4 hgW hsl hkey
  obtain ⟨V9, rfl⟩ : ∃ V, V = w9 := ⟨_, rfl⟩
  have d75 := (hb9.cell 75).trans hG.c75
  have d76 := (hb9.cell 76).trans hG.c76
  have d77 := (hb9.cell 77).trans hG.c77
  have d78 := (hb9.cell 78).trans hG.c78
  go_wp2_with fail
  refine (must_any _ _ _).mono ?_
  rintro e V9' ⟨rfl, rfl⟩
  go_wp2_with fail
  refine (must_any _ _ _).mono ?_
  rintro e V9'' ⟨rfl, rfl⟩
  obtain ⟨V9, rfl⟩ : ∃ V, V = V9'' := ⟨_, rfl⟩
  go_wp2_with ((with_reducible refine at_buildSlice 207 ?_); refine wpList_bsO V9 rfl rfl #[(0, .int .i64 1), (1, .int .i64 0), (2, .int .i64 1), (3, .int .i64 1)] _ (by simp [Act.eval]) (run_n4 elI64 V9 1 0 1 1) ?_; intro U9 x9 hE9 hx9 hbx9)
  refine (two_ws w g n0 (hi + 100 + 100 + 100 + 100) x9 4 [1, 0, 1, 1] rfl (by omega) (by decide) U9 (hps9.ext hE9) (by omega) hbx9).mono ?_
  rintro e V10 ⟨rfl, hps10, hK10⟩
  have hk910 := (KpT.of_ext hE9 (Nat.le_of_lt hps9.lt)).trans hK10
  have hb10 := hk910.blk B0 _ _ (by decide) hgB hb9
  have hk10 := hk09.trans hk910
  clear d75 d76 d77 d78 hE9 hx9 hbx9 hK10 hk910 hk09 hb9 hps9
  have d75 := (hb10.cell 75).trans hG.c75
  have hw10 := hk10.blk b1 _ _ (by decide) hn1 h1
  go_wp2_with fail
  refine wp_loop_rounds 2 ?_
  simp only [rounds_succ]
  go_wp2_with (first
    | ((with_reducible refine at_load 165 ?_); refine wpList_loadAll V10 rfl 165 _ rfl b1 165 (winC pa) hw10 _ rfl Tryz.underlying165 rfl (by kernel_rfl) ?_)
    | ((with_reducible refine at_alloc 165 ?_); refine wpList_allocO V10 rfl rfl (.agg #[.int .u64 0, .int .u64 0, .int .u64 0, .int .i64 0]) (fun W => by kernel_rfl) ?_; intro V11 BW hE11 hBW hz11)
    | ((with_reducible refine at_store 165 ?_); refine wpList_storeAll V11 rfl 165 _ _ rfl BW 165 _ (winC pa) hz11 rfl rfl rfl (by kernel_rfl) (by intro v hv; simp [winC] at hv; rcases hv with rfl | rfl | rfl | rfl <;> rfl) ?_; intro W12 hbw hg12 hs12; have e0 := (hbw.cell 0).trans (show (winC pa)[0]? = some (.int .u64 0) from rfl); have e1 := (hbw.cell 1).trans (show (winC pa)[1]? = some (.int .u64 (pa : Int)) from rfl); have e2 := (hbw.cell 2).trans (show (winC pa)[2]? = some (.int .u64 1048576) from rfl))
    | ((with_reducible refine at_buildSlice 33 ?_); refine wpList_bsO W12 rfl rfl #[(0, .int .u64 0), (1, .int .u64 (pa : Int)), (2, .int .u64 1048576)] _ (by simp [Act.eval]) (run_n3 elU64e W12 0 pa 1048576) ?_; intro U12 x12 hE12 hx12 hbx12))
  have hE12' : Ext V10 W12 := grown_below hE11 hg12 hE11.size hBW
  have hE1012 := hE12'.trans hE12
  refine (eight_ws w g n0 (hi + 100 + 100 + 100 + 100 + 100) x12 3 [0, pa, 1048576] rfl (by omega) U12 (hps10.ext hE1012) (by omega) hbx12).mono ?_
  rintro e V13 ⟨rfl, hps13, hK13⟩
  have hk1013 := (KpT.of_ext hE1012 (Nat.le_of_lt hps10.lt)).trans hK13
  have hb13 := hk1013.blk B0 _ _ (by decide) hgB hb10
  have hk13 := hk10.trans hk1013
  have hBWg : BW ≠ g := by have := hps10.lt; omega
  have hbw13 := hK13.blk BW _ _ (by decide) hBWg (hbw.ext hE12)
  clear hw10 hz11 hg12 hs12 hE11 hE12' hE12 hE1012 hx12 hbx12 e0 e1 e2 hbw hK13 hk1013 hk10 hb10 hps10 d75
  have e3 := (hbw13.cell 3).trans (show (winC pa)[3]? = some (.int .i64 7) from rfl)
  go_wp2_with fail
  refine (small_any 7 7 (by omega) (by omega) _).mono ?_
  rintro e V13' ⟨rfl, rfl⟩
  obtain ⟨V13, rfl⟩ : ∃ V, V = V13' := ⟨_, rfl⟩
  go_wp2_with ((with_reducible refine at_buildSlice 119 ?_); refine wpList_bsO V13 rfl rfl #[(0, .int .u32 7)] _ (by simp [Act.eval]) (run_n1 elU32 V13 7) ?_; intro U13 x13 hE13 hx13 hbx13)
  refine (four_ws w g n0 (hi + 100 + 100 + 100 + 100 + 100 + 100) x13 1 [7] rfl (by omega) U13 (hps13.ext hE13) (by omega) hbx13).mono ?_
  rintro e V14 ⟨rfl, hps14, hK14⟩
  have hk1314 := (KpT.of_ext hE13 (Nat.le_of_lt hps13.lt)).trans hK14
  have hb14 := hk1314.blk B0 _ _ (by decide) hgB hb13
  have hk14 := hk13.trans hk1314
  clear e3 hE13 hx13 hbx13 hK14 hk1314 hk13 hb13 hps13 hbw13
  have d76 := (hb14.cell 76).trans hG.c76
  have d77 := (hb14.cell 77).trans hG.c77
  have hi14 := hk14.blk b2 _ _ (by decide) hn2 h2
  go_wp2_with fail
  simp only [rounds_succ]
  go_wp2_with fail
  refine wp_loop_rounds 1 ?_
  simp only [rounds_succ]
  go_wp2_with fail
  refine wp_loop_rounds 2 ?_
  simp only [rounds_succ]
  go_wp2_with (first
    | ((with_reducible refine at_load 167 ?_); refine wpList_loadAll V14 rfl 167 _ rfl b2 167 (irqC nq cpu) hi14 _ rfl Tryz.underlying167 rfl (by kernel_rfl) ?_)
    | ((with_reducible refine at_alloc 167 ?_); refine wpList_allocO V14 rfl rfl (.agg #[.int .i64 0, .int .i64 0, .bool false]) (fun W => by kernel_rfl) ?_; intro V15 BI hE15 hBI hz15)
    | ((with_reducible refine at_store 167 ?_); refine wpList_storeAll V15 rfl 167 _ _ rfl BI 167 _ (irqC nq cpu) hz15 rfl rfl rfl (by kernel_rfl) (by intro v hv; simp [irqC] at hv; rcases hv with rfl | rfl | rfl <;> rfl) ?_; intro V26 hbi hg26 hs26))
  have hE26 : Ext V14 V26 := grown_below hE15 hg26 hE15.size hBI
  have hps26 := hps14.ext hE26
  have hb26 := hb14.ext hE26
  have hk26 := hk14.trans (KpT.of_ext hE26 (Nat.le_of_lt hps14.lt))
  have hBIg : BI ≠ g := by have := hps14.lt; omega
  clear hz15 hg26 hs26 hE15 hps14 hi14 d76 d77 hb14 hk14 hE26
  simp only [Act.put, List.setIfInBounds_toArray, List.set_cons_succ, List.set_cons_zero]
  refine Flow.wp_region_flow (g) [(8, fun b => g ≤ b)] [(2, fun W => Chg (fun _ => False) V26 W), (5, fun W => Chg (fun _ => False) V26 W), (8, fun W => Chg (fun _ => False) V26 W)] (by kernel_rfl) (by kernel_rfl) (Nat.le_of_lt hps26.lt) (Flow.nz_cons (fun b h => h) Flow.nz_nil) (Flow.facts_cons ((Chg.refl _ _).drew) (fun _ _ c h => h.trans c) (Flow.fz_cons (Flow.no_follow (by kernel_rfl)) Flow.fz_nil) (Flow.facts_cons ((Chg.refl _ _).drew) (fun _ _ c h => h.trans c) (Flow.fz_cons (Flow.no_follow (by kernel_rfl)) Flow.fz_nil) (Flow.facts_cons ((Chg.refl _ _).drew) (fun _ _ c h => h.trans c) (Flow.fz_cons (Flow.no_follow (by kernel_rfl)) Flow.fz_nil) Flow.facts_nil)))  ?_
  refine Flow.pass_old (X := .pointer (some ⟨g, 0, none⟩)) 0 (Flow.met_none rfl) (.inl rfl) (by kernel_rfl) (by kernel_rfl) rfl ?_
  refine Flow.pass_val (.pointer (some ⟨BI, 0, none⟩)) (Flow.met_none rfl) (fun a W hH => ?_) ?_
  · have e0 := Flow.see_old 10 hH.sees (by kernel_rfl) (by kernel_rfl) rfl
    go_simp; first | done | rfl
  refine Flow.pass_val (.int .i64 (nq : Int)) (Flow.met_none rfl) (fun a W hH => ?_) ?_
  · have e0 := Flow.see_new 153 1 hH.sees (by kernel_rfl) (by kernel_rfl) rfl rfl
    have fa0 : (fun W => Chg (fun _ => False) V26 W) W := hH.fact _ (List.mem_of_getElem? (i := 0) rfl) rfl
    have cc : World.cell? W ⟨BI, 0, none⟩ = some (.int .i64 (nq : Int)) := (((hbi).chg fa0 id).cell (0)).trans rfl; go_simp; first | done | rfl
  refine Flow.pass_step (Reg.eqs (.int .i64 (nq : Int))) (fun _ _ => Flow.kept_eqs _ _) (Flow.met_none rfl) (fun a W hH => ?_) ?_
  · have e0 := Flow.see_new 154 2 hH.sees (by kernel_rfl) (by kernel_rfl) rfl rfl
    refine Reg.wp_call rfl Tryz.func78 rfl (by kernel_rfl) (by simp [Act.eval, e0]) (small_any (nq : Int) 65535 (by omega) (by omega) W) ?_
    rintro e w' ⟨rfl, rfl⟩
    exact ⟨_, rfl, _, rfl, Ext.refl _, rfl⟩
  refine Flow.pass_val (.pointer (some ⟨BI, 1, none⟩)) (Flow.met_none rfl) (fun a W hH => ?_) ?_
  · have e0 := Flow.see_old 10 hH.sees (by kernel_rfl) (by kernel_rfl) rfl
    go_simp; first | done | rfl
  refine Flow.pass_val (.int .i64 (cpu : Int)) (Flow.met_none rfl) (fun a W hH => ?_) ?_
  · have e0 := Flow.see_new 156 4 hH.sees (by kernel_rfl) (by kernel_rfl) rfl rfl
    have fa1 : (fun W => Chg (fun _ => False) V26 W) W := hH.fact _ (List.mem_of_getElem? (i := 1) rfl) rfl
    have cc : World.cell? W ⟨BI, 1, none⟩ = some (.int .i64 (cpu : Int)) := (((hbi).chg fa1 id).cell (1)).trans rfl; go_simp; first | done | rfl
  refine Flow.pass_step (Reg.eqs (.int .i64 (cpu : Int))) (fun _ _ => Flow.kept_eqs _ _) (Flow.met_none rfl) (fun a W hH => ?_) ?_
  · have e0 := Flow.see_new 157 5 hH.sees (by kernel_rfl) (by kernel_rfl) rfl rfl
    refine Reg.wp_call rfl Tryz.func78 rfl (by kernel_rfl) (by simp [Act.eval, e0]) (small_any (cpu : Int) 65535 (by omega) (by omega) W) ?_
    rintro e w' ⟨rfl, rfl⟩
    exact ⟨_, rfl, _, rfl, Ext.refl _, rfl⟩
  refine Flow.pass_lin [8] (fun v W => ∃ b, v = .slice (some ⟨b, 0, none⟩) 2 2 ∧ Blk W b 3 (([nq, cpu] : List Nat).map fun (x : Nat) => Value.int .i64 (x : Int)).toArray) (Flow.kept_lin [8] (fun _ _ _ c ⟨b, h1, h2⟩ => ⟨b, h1, h2.chg c id⟩) (Flow.lz_cons (fun _ => .inl rfl) Flow.lz_nil)) (Flow.met_none rfl) (fun a W hH => ?_) ?_
  · have e0 := Flow.see_new 155 3 hH.sees (by kernel_rfl) (by kernel_rfl) rfl rfl
    have e1 := Flow.see_new 158 6 hH.sees (by kernel_rfl) (by kernel_rfl) rfl rfl
    refine Flow.wp_run (Flow.reg_buildSlice _ rfl (by simp [Act.eval, e0, e1]) (run_n2 elI64 W (nq : Int) (cpu : Int))) ?_
    exact ⟨_, rfl, Chg.of_ext ((Ext.refl W).alloc _), W.heap.size, rfl, Blk.new _ _ _⟩
  refine Flow.pass_gen (fun v W => v = .tuple #[] ∧ (PSw w g n0 (hi + 100 + 100 + 100 + 100 + 100 + 100 + 100 + 100) W ∧ KpT g V26 W)) (Flow.kept_of (fun _ _ _ c ⟨h1, h2, h3⟩ => ⟨h1, h2.ext c.ext, h3.trans (KpT.of_ext c.ext (Nat.le_of_lt h2.lt))⟩) (Flow.kz_cons (Flow.no_follow (by kernel_rfl)) Flow.kz_nil)) (Flow.met_none rfl) (fun a W hH => ?_) ?_
  · have e0 := Flow.see_new 152 0 hH.sees (by kernel_rfl) (by kernel_rfl) rfl rfl
    obtain ⟨b1, e1, q1⟩ := Flow.see_lin 159 7 hH.sees (by kernel_rfl) (by kernel_rfl) rfl rfl (by kernel_rfl)
    have fa2 : (fun W => Chg (fun _ => False) V26 W) W := hH.fact _ (List.mem_of_getElem? (i := 2) rfl) rfl
    refine Flow.wp_callZ rfl Tryz.func75 rfl (by kernel_rfl) (by simp [Act.eval, e0, e1]) (two_ws w g n0 (hi + 100 + 100 + 100 + 100 + 100 + 100 + 100) b1 2 [nq, cpu] rfl (by omega) (by intro n hn; simp at hn; omega) W (PSw.ext hps26 fa2.ext) (by omega) q1) ?_
    rintro e w' ⟨rfl, hp2, hK⟩
    exact ⟨_, rfl, Chg.of_below hK.below (fun _ h _ => h), rfl, hp2, (KpT.of_ext fa2.ext (Nat.le_of_lt hps26.lt)).trans hK⟩
  refine Flow.pass_end [none, none, none, none, none, none, none, none, none, none, none, none, none, none, none, none, none, none, none, none, none, none, none, none, none, none, none, none, none, none, none, none, none, none, none, none, none, none, none, none, none, none, none, none, none, none, none, none, none, none, none, none, none, none, none, none, none, none, none, none, none, none, none, none, none, none, none, none, none, none, none, none, none, none, none, none, none, none, none, none, none, none, none, none, none, none, none, none, none, none, none, none, none, none, none, none, none, none, none, none, none, none, none, none, none, none, none, none, none, none, none, none, none, none, none, none, none, none, none, none, none, none, none, none, none, none, none, none, none, none, none, none, none, none, none, none, none, none, none, none, none, none, none, none, none, none, none, none, none, none, none, none, some 152, some 153, some 154, some 155, some 156, some 157, some 158, some 159, some 160, none, none, none, none, none, none, none, none, none, none, none] (by kernel_rfl) ?_
  intro f gg w9 hB hfa hT hfg
  have h160 := hT 8 _ (by kernel_rfl) rfl
  rw [← hfg 160 8 (by kernel_rfl)] at h160
  obtain ⟨_, hps27, hK27⟩ := h160
  have hb27 := hK27.blk B0 _ _ (by decide) hgB hb26
  have hk27 := hk26.trans hK27
  have hbi27 := hK27.blk BI _ _ (by decide) hBIg hbi
  simp only [Reg.sel]
  clear hT hfg hfa hB hK27 hps26 hb26 hbi hk26
  obtain ⟨V27, rfl⟩ : ∃ V, V = w9 := ⟨_, rfl⟩
  have e2 := (hbi27.cell 2).trans (show (irqC nq cpu)[2]? = some (.bool false) from rfl)
  go_wp2_with fail
  refine (truth_any false _).mono ?_
  rintro e V27' ⟨rfl, rfl⟩
  obtain ⟨V27, rfl⟩ : ∃ V, V = V27' := ⟨_, rfl⟩
  go_wp2_with ((with_reducible refine at_buildSlice 119 ?_); refine wpList_bsO V27 rfl rfl #[(0, .int .u32 0)] _ (by simp [Act.eval]) (run_n1 elU32 V27 0) ?_; intro U27 x27 hE27 hx27 hbx27)
  refine (four_ws w g n0 (hi + 100 + 100 + 100 + 100 + 100 + 100 + 100 + 100) x27 1 [0] rfl (by omega) U27 (hps27.ext hE27) (by omega) hbx27).mono ?_
  rintro e V28 ⟨rfl, hps28, hK28⟩
  have hk2728 := (KpT.of_ext hE27 (Nat.le_of_lt hps27.lt)).trans hK28
  have hb28 := hk2728.blk B0 _ _ (by decide) hgB hb27
  have hk28 := hk27.trans hk2728
  clear e2 hE27 hx27 hbx27 hK28 hk2728 hk27 hb27 hps27 hbi27
  have d78 := (hb28.cell 78).trans hG.c78
  go_wp2_with fail
  simp only [rounds_succ]
  go_wp2_with fail
  refine (four_ws w g n0 (hi + 100 + 100 + 100 + 100 + 100 + 100 + 100 + 100 + 100) b3 1 [cpu] rfl (by omega) V28 hps28 (by omega) (hk28.blk b3 _ _ (by decide) hn3 h3)).mono ?_
  rintro e V29 ⟨rfl, hps29, hK29⟩
  go_wp2_with fail
  go_end0
  obtain ⟨⟨l', q1, q2, q3⟩, hk⟩ := hps29
  exact ⟨rfl, ⟨⟨l', q1, by omega, q3⟩, hk⟩, hk28.trans hK29⟩
end Go.Proofs.YtpellkblaeeopaaGreatDoor
