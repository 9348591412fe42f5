/-
  Parts: GeH.
-/
import Derived.Test.YtpellkblaeeopaaGreatDoorC19
import Derived.Maps.OwnSet
/-
  Walk for awake35: text.named.
-/
namespace Go.Proofs.YtpellkblaeeopaaGreatDoor
open Go.RowKit
open Go.Maps (Keyed)

namespace StrMap
def K2 : Value := .string ⟨#[111, 110, 101]⟩
def K3 : Value := .string ⟨#[116, 119, 111]⟩
theorem K23 : K2 ≠ K3 := by unfold K2 K3; intro h; injection h with h; injection h with h; exact absurd h (by decide)
theorem keyP : Keyed Tryz.prog 9 := Go.Maps.string_keyed Tryz.underlying9
theorem keyK2 : ∃ l, keyOf Tryz.prog 9 K2 = some l := Option.isSome_iff_exists.1 (by kernel_rfl)
theorem keyK3 : ∃ l, keyOf Tryz.prog 9 K3 = some l := Option.isSome_iff_exists.1 (by kernel_rfl)
theorem find_at {x : Value} {es : List MapEntry} {j : Nat} {e : MapEntry} (w : World) (hx : ∃ l, keyOf Tryz.prog 9 x = some l) (hes : ∀ e ∈ es, ∃ l, keyOf Tryz.prog 9 e.key = some l)
    (hj : es[j]? = some e) (hk : e.key = x) (hu : ∀ i e', es[i]? = some e' → e'.key = x → i = j) : (Instr.findKey 9 x es).run Tryz.prog w = .ok (some (j, e.val)) w := by
  obtain ⟨l, hl⟩ := hx
  rcases keyP.find w hl es hes with ⟨_, h2⟩ | ⟨i, e', h1, h2, h3⟩
  · exact absurd hk (h2 e (List.mem_of_getElem? hj))
  · obtain rfl := hu i e' h2 h3
    rw [hj] at h2; cases h2
    exact h1
theorem find_no {x : Value} {es : List MapEntry} (w : World) (hx : ∃ l, keyOf Tryz.prog 9 x = some l) (hes : ∀ e ∈ es, ∃ l, keyOf Tryz.prog 9 e.key = some l)
    (hn : ∀ e ∈ es, e.key ≠ x) : (Instr.findKey 9 x es).run Tryz.prog w = .ok none w := by
  obtain ⟨l, hl⟩ := hx
  rcases keyP.find w hl es hes with ⟨h1, _⟩ | ⟨i, e', _, h2, h3⟩
  · exact h1
  · exact absurd h3 (hn e' (List.mem_of_getElem? h2))
/-- the entries: of the place at level 2, then of the one at level 3 -/
def esP (a b : Option Value) : Array MapEntry := match a, b with
  | none, _ => #[]
  | some u, none => #[⟨K2, u, 0⟩]
  | some u, some v => #[⟨K2, u, 0⟩, ⟨K3, v, 1⟩]
/-- a block that is such a map -/
def MapP (w : World) (g : Nat) (a b : Option Value) : Prop := w.heap[g]? = some (.map (esP a b) (esP a b).size)
def setB (w : World) (g : Nat) (o : Obj) : World := { w with heap := w.heap.setIfInBounds g o }
theorem setB_grown (w : World) (g : Nat) (o : Obj) : w.grownBy (setB w g o) (some g) := ⟨rfl, rfl, rfl, by simp [setB], fun k _ hne => by
  have : g ≠ k := fun e => hne (by rw [e])
  simp [setB, Array.getElem?_setIfInBounds_ne this]⟩
theorem setB_same {w : World} {g : Nat} (h : g < w.heap.size) (o : Obj) : (setB w g o).heap[g]? = some o := by simp [setB, h]
theorem MapP.lt {w : World} {g : Nat} {a b : Option Value} (h : MapP w g a b) : g < w.heap.size := (Array.getElem?_eq_some_iff.1 h).1
theorem MapP.chg {w w' : World} {g : Nat} {a b : Option Value} {Z : Nat → Prop} (h : MapP w g a b) (c : Chg Z w w') (hg : ¬ Z g) : MapP w' g a b := (c.block g h.lt hg).trans h
theorem esP_keys (a b : Option Value) : ∀ e ∈ (esP a b).toList, ∃ l, keyOf Tryz.prog 9 e.key = some l := by
  intro e he
  cases a with
  | none => simp [esP] at he
  | some u =>
    cases b with
    | none =>
      simp only [esP, List.mem_singleton] at he
      subst he; exact keyK2
    | some v =>
      simp only [esP, List.mem_cons, List.not_mem_nil, or_false] at he
      rcases he with rfl | rfl
      · exact keyK2
      · exact keyK3
theorem findK2 (w : World) (a b : Option Value) : (Instr.findKey 9 K2 (esP a b).toList).run Tryz.prog w = .ok (a.map fun u => (0, u)) w := by
  cases a with
  | none => exact find_no w keyK2 (esP_keys none b) (by simp [esP])
  | some u =>
    refine find_at (e := ⟨K2, u, 0⟩) w keyK2 (esP_keys (some u) b) (by cases b <;> rfl) rfl ?_
    intro i e' h1 h2
    cases b with
    | none => match i with
      | 0 => rfl
      | i + 1 => simp [esP] at h1
    | some v => match i with
      | 0 => rfl
      | 1 => simp [esP] at h1; subst h1; exact absurd h2.symm K23
      | i + 2 => simp [esP] at h1
theorem findK3 (w : World) (a b : Option Value) (hab : a = none → b = none) : (Instr.findKey 9 K3 (esP a b).toList).run Tryz.prog w = .ok (b.map fun u => (1, u)) w := by
  cases a with
  | none => rw [hab rfl]; exact find_no w keyK3 (esP_keys none none) (by simp [esP])
  | some u =>
    cases b with
    | none => exact find_no w keyK3 (esP_keys (some u) none) (by simp [esP, K23])
    | some v =>
      refine find_at (e := ⟨K3, v, 1⟩) w keyK3 (esP_keys (some u) (some v)) rfl rfl ?_
      intro i e' h1 h2
      match i with
      | 0 => simp [esP] at h1; subst h1; exact absurd h2 K23
      | 1 => rfl
      | i + 2 => simp [esP] at h1
section
variable {w : World} {g : Nat} {a b : Option Value} {t e : TypeId} {z : Value}
theorem checkK2 (w : World) (em : Bool) : (Instr.checkKey em 10000 9 K2).run Tryz.prog w = .ok () w := by obtain ⟨l, hl⟩ := keyK2; exact keyP.check w em hl
theorem checkK3 (w : World) (em : Bool) : (Instr.checkKey em 10000 9 K3).run Tryz.prog w = .ok () w := by obtain ⟨l, hl⟩ := keyK3; exact keyP.check w em hl
theorem stayK2 (w : World) : (Instr.keyThatStays K2 K2).run Tryz.prog w = .ok K2 w := by obtain ⟨l, hl⟩ := keyK2; exact keyP.stays w hl
theorem stayK3 (w : World) : (Instr.keyThatStays K3 K3).run Tryz.prog w = .ok K3 w := by obtain ⟨l, hl⟩ := keyK3; exact keyP.stays w hl
theorem look2 (h : MapP w g a b) (ht : Tryz.prog.underlying t = some (.map 9 e)) (hz : (zeroValue e).run Tryz.prog w = .ok z w) (ok : Bool) :
    (Instr.lookup t (.map (some g)) K2 ok).run Tryz.prog w = .ok (if ok then .tuple #[a.getD z, .bool a.isSome] else a.getD z) w := by
  cases a <;> cases ok <;> simp [Instr.lookup, run_underlying ht, MapKept.run_getObj_map h, checkK2, findK2, hz]
theorem look3 (h : MapP w g a b) (hab : a = none → b = none) (ht : Tryz.prog.underlying t = some (.map 9 e)) (hz : (zeroValue e).run Tryz.prog w = .ok z w) (ok : Bool) :
    (Instr.lookup t (.map (some g)) K3 ok).run Tryz.prog w = .ok (if ok then .tuple #[b.getD z, .bool b.isSome] else b.getD z) w := by
  have hf := findK3 w a b hab
  cases b <;> cases ok <;> simp [Instr.lookup, run_underlying ht, MapKept.run_getObj_map h, checkK3, hf, hz]
theorem upd2 (h : MapP w g none none) (ht : Tryz.prog.underlying t = some (.map 9 e)) (v : Value) :
    ∃ w', (Instr.mapUpdate t (.map (some g)) K2 v).run Tryz.prog w = .ok () w' ∧ w.grownBy w' (some g) ∧ MapP w' g (some v) none := by
  refine ⟨setB w g (.map (esP (some v) none) (esP (some v) none).size), ?_, setB_grown _ _ _, setB_same h.lt _⟩
  have hf := findK2 w none none
  simp only [esP] at hf
  simp [Instr.mapUpdate, run_underlying ht, MapKept.run_getObj_map h, checkK2, hf, MapKept.run_setObj_map _ h, setB, esP]
theorem upd3 {u : Value} (h : MapP w g (some u) none) (ht : Tryz.prog.underlying t = some (.map 9 e)) (v : Value) :
    ∃ w', (Instr.mapUpdate t (.map (some g)) K3 v).run Tryz.prog w = .ok () w' ∧ w.grownBy w' (some g) ∧ MapP w' g (some u) (some v) := by
  refine ⟨setB w g (.map (esP (some u) (some v)) (esP (some u) (some v)).size), ?_, setB_grown _ _ _, setB_same h.lt _⟩
  have hf := findK3 w (some u) none (by simp)
  simp only [esP] at hf
  simp [Instr.mapUpdate, run_underlying ht, MapKept.run_getObj_map h, checkK3, hf, MapKept.run_setObj_map _ h, setB, esP]
theorem MapP.new (w : World) : MapP (w.alloc (.map #[] 0)) w.heap.size none none := World.alloc_heap_new w _
end
end StrMap

section
variable {ops : Array Oper} {rest : List Oper} {o : Oper} {a : Act} {Q : Exit → Act → World → Prop}
theorem wpList_mapO (W : World) (hw : Region.wanted o (yielded ops a.tmps) = true) {ty : TypeId} (ho : o.op = .makeMap ty none)
    (h : ∀ W2 g, Ext W W2 → W.heap.size ≤ g → StrMap.MapP W2 g none none → wpList Tryz.prog ops Q rest (a.put o.dst (.map (some g))) W2) : wpList Tryz.prog ops Q (o :: rest) a W := by
  refine wpList_runV (v := .map (some W.heap.size)) (w' := W.alloc (.map #[] 0)) hw ?_ (h _ _ ((Ext.refl W).alloc _) (Nat.le_refl _) (StrMap.MapP.new W))
  simp [execOp, ho, Instr.makeMap]
variable {dst : Option Tmp} {ty : TypeId} {pos : String} {aft : Array Edge} {gd : Option (Nat × Bool)} {P : Program} {w : World}
theorem at_makeMap (t : TypeId) {x : Option Operand} (h : wpList P ops Q (⟨dst, .makeMap t x, ty, pos, aft, gd⟩ :: rest) a w) : wpList P ops Q (⟨dst, .makeMap t x, ty, pos, aft, gd⟩ :: rest) a w := h
end
section
variable {P : Program} {ops : Array Oper} {rest : List Oper} {a : Act} {w : World} {Q : Exit → Act → World → Prop} {dst : Option Tmp} {ty : TypeId} {pos : String} {aft : Array Edge} {gd : Option (Nat × Bool)} {o : Oper}
theorem at_index (t : TypeId) {x y : Operand} (h : wpList P ops Q (⟨dst, .index t x y, ty, pos, aft, gd⟩ :: rest) a w) : wpList P ops Q (⟨dst, .index t x y, ty, pos, aft, gd⟩ :: rest) a w := h
theorem reg_index {t : TypeId} {x y : Operand} {u v r : Value} (ho : o.op = .index t x y) (hx : a.eval x = u) (hy : a.eval y = v) (h : (Instr.index t u v).run P w = .ok r w) : (execOp a.eval o).run P w = .ok (.value r) w := by
  subst hx hy
  simp [execOp, ho, h]
end
theorem zI64 (w : World) : (zeroValue 3).run Tryz.prog w = .ok (.int .i64 0) w := by kernel_rfl
set_option maxRecDepth 100000 in
set_option maxHeartbeats 4000000 in
theorem named_any (B bs bc b1 b2 b3 b4 b5 b6 : Nat) (w : World) (hgs : GsB B w bs b1 b2 b3 b4 b5 b6) (hch : Blk w bc 115 chC) :
    Calls Tryz.prog 36 #[.agg (cfgC bs bc)] w fun e w' => e = .returned (.bool true) ∧ Below w.heap.size w w' := by
  obtain ⟨gA, hgA⟩ : ∃ gA, gA = gstC ⟨#[111, 110, 101]⟩ 1 b1 b2 b3 := ⟨_, rfl⟩
  obtain ⟨gB, hgB⟩ : ∃ gB, gB = gstC ⟨#[116, 119, 111]⟩ 2 b4 b5 b6 := ⟨_, rfl⟩
  have hA : GC gA ⟨#[111, 110, 101]⟩ 1 b1 b2 b3 := hgA ▸ GC.of _ _ _ _ _
  have hB : GC gB ⟨#[116, 119, 111]⟩ 2 b4 b5 b6 := hgB ▸ GC.of _ _ _ _ _
  have hs := hgs.hs
  rw [← hgA, ← hgB] at hs
  clear hgA hgB hgs
  go_enter Tryz.func36, Tryz.ntmps36
  go_wp2_with (first
    | ((with_reducible refine at_box 55 ?_); refine wpList_boxO w rfl rfl (cfgC bs bc) rfl ?_; intro W0 B0 hE0 hB0 hb0; have cc1 := (hb0.cell 1).trans (show (cfgC bs bc)[1]? = some (.slice (some ⟨bs, 0, none⟩) 2 2) from rfl))
    | ((with_reducible refine at_makeMap 177 ?_); refine wpList_mapO W0 rfl rfl ?_; intro W1 bm hE1 hm1 hm; have cc2 := ((hb0.ext hE1).cell 1).trans (show (cfgC bs bc)[1]? = some (.slice (some ⟨bs, 0, none⟩) 2 2) from rfl)))
  have hbmW := hm.lt
  have hE01 := hE0.trans hE1
  have hr0 := rangeA (hs.ext hE01)
  have hs1 := hs.ext hE01
  have hch1 := hch.ext hE01
  have hb1 := hb0.ext hE1
  have hbB : B0 < bm := by have := hb0.lt; omega
  have hbsw := hs.lt
  have hbcw := hch.lt
  have hwz := hE0.size
  clear cc1 hb0
  refine wp_loop_rounds 3 ?_
  simp only [rounds_succ]
  go_wp2_with (first
    | ((with_reducible refine at_load 121 ?_); refine wpList_load_mid rfl 121 _ rfl bs 0 rfl gA.toList _ hr0 Tryz.underlying121 rfl hA.infl ?_)
    | ((with_reducible refine at_alloc 121 ?_); refine wpList_allocO W1 rfl rfl (.agg Tryz.zeroCells121) zGst ?_; intro V1 G1 hEV1 hlV1 hzV1)
    | ((with_reducible refine at_store 121 ?_); refine wpList_storeAll V1 rfl 121 _ _ rfl G1 121 _ gA hzV1 rfl rfl hA.zs hA.inf hA.one ?_; intro W2 hbW2 hgW2 hsW2; have cnW2 := (hbW2.cell 0).trans hA.c0; have hEW2 : Ext W1 W2 := grown_below hEV1 hgW2 hEV1.size hlV1; have hmA1 := hm.chg (Chg.of_ext (Z := fun _ => False) hEW2) id; have hl1 : (Instr.lookup 177 (.map (some bm)) (.string ⟨#[111, 110, 101]⟩) false).run Tryz.prog W2 = .ok (.int .i64 0) W2 := StrMap.look2 hmA1 Tryz.underlying177 (zI64 W2) false; obtain ⟨W3, hu1, hgu1, hmB1⟩ := StrMap.upd2 hmA1 Tryz.underlying177 (.int .i64 1); have hv1 : (Instr.mapUpdate 177 (.map (some bm)) (.string ⟨#[111, 110, 101]⟩) (.int .i64 1)).run Tryz.prog W2 = .ok () W3 := hu1; have hl1' : (Instr.lookup 177 (.map (some bm)) (.string ⟨#[111, 110, 101]⟩) false).run Tryz.prog W3 = .ok (.int .i64 1) W3 := StrMap.look2 hmB1 Tryz.underlying177 (zI64 W3) false; have cnW3 := ((hbW2.grown hgu1 (fun e => by have := Option.some.inj e; have := hmA1.lt; omega)).cell 0).trans hA.c0))
  have hE3 : Chg (fun b => b = bm) W1 W3 := (Chg.of_ext hEW2).trans (Chg.grown hgu1 (by rintro k h; cases h; rfl))
  have hr79 := rangeB (hs1.chg hE3 (by show ¬ _ = _; omega)) hA.size
  have hbm3 := hmB1.lt
  clear hl1 hl1' hu1 hv1 cnW2 cnW3 hbW2 hgW2 hsW2 hmA1 hgu1 hEV1 hzV1 hEW2 hm
  simp only [rounds_succ]
  go_wp2_with (first
    | ((with_reducible refine at_load 121 ?_); refine wpList_load_mid rfl 121 _ rfl bs 79 rfl gB.toList _ hr79 Tryz.underlying121 rfl hB.infl ?_)
    | ((with_reducible refine at_alloc 121 ?_); refine wpList_allocO W3 rfl rfl (.agg Tryz.zeroCells121) zGst ?_; intro V3 G3 hEV3 hlV3 hzV3)
    | ((with_reducible refine at_store 121 ?_); refine wpList_storeAll V3 rfl 121 _ _ rfl G3 121 _ gB hzV3 rfl rfl hB.zs hB.inf hB.one ?_; intro W4 hbW4 hgW4 hsW4; have cnW4 := (hbW4.cell 0).trans hB.c0; have hEW4 : Ext W3 W4 := grown_below hEV3 hgW4 hEV3.size hlV3; have hmA2 := hmB1.chg (Chg.of_ext (Z := fun _ => False) hEW4) id; have hl2 : (Instr.lookup 177 (.map (some bm)) (.string ⟨#[116, 119, 111]⟩) false).run Tryz.prog W4 = .ok (.int .i64 0) W4 := StrMap.look3 hmA2 (fun h => by cases h) Tryz.underlying177 (zI64 W4) false; obtain ⟨W5, hu2, hgu2, hmB2⟩ := StrMap.upd3 hmA2 Tryz.underlying177 (.int .i64 1); have hv2 : (Instr.mapUpdate 177 (.map (some bm)) (.string ⟨#[116, 119, 111]⟩) (.int .i64 1)).run Tryz.prog W4 = .ok () W5 := hu2; have hl2' : (Instr.lookup 177 (.map (some bm)) (.string ⟨#[116, 119, 111]⟩) false).run Tryz.prog W5 = .ok (.int .i64 1) W5 := StrMap.look3 hmB2 (fun h => by cases h) Tryz.underlying177 (zI64 W5) false; have cnW5 := ((hbW4.grown hgu2 (fun e => by have := Option.some.inj e; have := hmA2.lt; omega)).cell 0).trans hB.c0))
  have hE5 : Chg (fun b => b = bm) W3 W5 := (Chg.of_ext hEW4).trans (Chg.grown hgu2 (by rintro k h; cases h; rfl))
  have hE15 := hE3.trans hE5
  have hb5 := hb1.chg hE15 (by show ¬ _ = _; omega)
  have hch5 := hch1.chg hE15 (by show ¬ _ = _; omega)
  have d1 := (hb5.cell 1).trans (show (cfgC bs bc)[1]? = some (.slice (some ⟨bs, 0, none⟩) 2 2) from rfl)
  have d2 := (hb5.cell 2).trans (show (cfgC bs bc)[2]? = some (.slice (some ⟨bc, 0, none⟩) 1 1) from rfl)
  have hlt5 := hch5.lt
  have hb5lt := hb5.lt
  clear hl2 hl2' hu2 hv2 cnW4 cnW5 hbW4 hgW4 hsW4 hmA2 hgu2 hEV3 hzV3 hEW4 hmB1 hmB2 hr0 hr79 hs1 hch1 hb1 cc2
  simp only [rounds_succ]
  go_wp2_with fail
  refine wp_loop_rounds 2 ?_
  simp only [rounds_succ]
  go_wp2_with (first
    | ((with_reducible refine at_load 115 ?_); refine wpList_loadAll W5 rfl 115 _ rfl bc 115 chC hch5 _ rfl Tryz.underlying115 rfl infCh ?_)
    | ((with_reducible refine at_alloc 115 ?_); refine wpList_allocO W5 rfl rfl _ zCh ?_; intro V6 BC hE6 hl6 hz6)
    | ((with_reducible refine at_store 115 ?_); refine wpList_storeAll V6 rfl 115 _ _ rfl BC 115 _ chC hz6 rfl rfl rfl infCh ch_one ?_; intro W7 hb7 hg7 hs7; have hr7 := ch_ens hb7; have hE7 : Ext W5 W7 := grown_below hE6 hg7 hE6.size hl6)
    | ((with_reducible refine at_load 113 ?_); refine wpList_load_mid rfl 113 _ rfl BC 2 rfl ensC.toList _ hr7 Tryz.underlying113 rfl infEns ?_))
  have hb7' := hb5.ext hE7
  refine wp_loop_rounds 3 ?_
  simp only [rounds_succ]
  go_wp2_with (first
    | ((with_reducible refine at_index 113 ?_); refine wpList_runV rfl (reg_index rfl rfl rfl (ix_en0 _)) ?_)
    | ((with_reducible refine at_alloc 112 ?_); refine wpList_allocO W7 rfl rfl _ zEn ?_; intro V8 BE hEV8 hlV8 hzV8)
    | ((with_reducible refine at_store 112 ?_); refine wpList_storeAll V8 rfl 112 _ _ rfl BE 112 _ (chEn 0 3 268435456) hzV8 rfl rfl rfl infEn (en_one _ _ _) ?_; intro W8 hbW8 hgW8 hsW8; have hEW8 : Ext W7 W8 := grown_below hEV8 hgW8 hEV8.size hlV8; have xW80 := (hbW8.cell 0).trans (show (chEn 0 3 268435456)[0]? = some (.int .i64 0) from rfl); have xW81 := ((hb7'.ext hEW8).cell 1).trans (show (cfgC bs bc)[1]? = some (.slice (some ⟨bs, 0, none⟩) 2 2) from rfl)))
  simp only [rounds_succ]
  have hb8' := hb7'.ext hEW8
  go_wp2_with (first
    | ((with_reducible refine at_index 113 ?_); refine wpList_runV rfl (reg_index rfl rfl rfl (ix_en1 _)) ?_)
    | ((with_reducible refine at_alloc 112 ?_); refine wpList_allocO W8 rfl rfl _ zEn ?_; intro V9 BF hEV9 hlV9 hzV9)
    | ((with_reducible refine at_store 112 ?_); refine wpList_storeAll V9 rfl 112 _ _ rfl BF 112 _ (chEn 1 1 536870912) hzV9 rfl rfl rfl infEn (en_one _ _ _) ?_; intro W9 hbW9 hgW9 hsW9; have hEW9 : Ext W8 W9 := grown_below hEV9 hgW9 hEV9.size hlV9; have xW90 := (hbW9.cell 0).trans (show (chEn 1 1 536870912)[0]? = some (.int .i64 1) from rfl); have xW91 := ((hb8'.ext hEW9).cell 1).trans (show (cfgC bs bc)[1]? = some (.slice (some ⟨bs, 0, none⟩) 2 2) from rfl)))
  simp only [rounds_succ]
  have hb9' := hb8'.ext hEW9
  go_wp2_with fail
  simp only [rounds_succ]
  go_wp2_with fail
  go_ret
  have k1 := hE01.size
  have k2 := hE15.size
  have hBL := Below.trans hE01 (hE15.below (n := w.heap.size) (fun b hb => by have hb : b = bm := hb; omega) hE01.size)
  exact ⟨rfl, hBL.trans ((((hE7.trans hEW8).trans hEW9)).below hBL.size)⟩
end Go.Proofs.YtpellkblaeeopaaGreatDoor
