/-
  Walks: load's look as a block; unless; split.
-/
import Derived.Test.YtipdmhppadapkaaGreatDoorLdA
namespace Go.Proofs.YtipdmhppadapkaaGreatDoor
open Go.RowKit Sha

theorem get_app {P R : List Value} {n : Nat} (h : P.length = n) (k : Nat) : (P ++ R)[n + k]? = R[k]? := by
  rw [List.getElem?_append_right (by omega), h, Nat.add_sub_cancel_left]
theorem range_of {w : World} {b : Nat} {t : TypeId} {P Q R : List Value} {n : Nat} (hb : Blk w b t (P ++ Q ++ R).toArray) (h : P.length = n) : w.rangeAt b n Q := by
  intro j v hv
  rw [hb.cell, List.getElem?_toArray, List.append_assoc, get_app h, List.getElem?_append_left (List.getElem?_eq_some_iff.1 hv).1]
  exact hv
/-- a look: the guest, the header, three slices -/
def lkCells (g : Gu) (h : Hd) (a b c : Value) : List Value := g.cells ++ hdCells h ++ [a, b, c]
def Lk (w : World) (x : Nat) (g : Gu) (h : Hd) (a b c : Value) : Prop := Blk w x 82 (lkCells g h a b c).toArray
section
variable {w : World} {x : Nat} {g : Gu} {h : Hd} {a b c : Value}
theorem Lk.name (H : Lk w x g h a b c) : w.cell? ⟨x, 0, none⟩ = some (.string ⟨g.name.toArray⟩) := (H.cell 0).trans rfl
theorem Lk.off (H : Lk w x g h a b c) : w.cell? ⟨x, 2, none⟩ = some (.int .u32 (g.off : Int)) := (H.cell 2).trans rfl
theorem Lk.len (H : Lk w x g h a b c) : w.cell? ⟨x, 3, none⟩ = some (.int .u32 (g.len : Int)) := (H.cell 3).trans rfl
theorem Lk.key (H : Lk w x g h a b c) (hk : g.key.length = 68) : Rd w w.heap.size 1 (some ⟨x, 7, none⟩) 68 (bcells g.key) := by
  have e : lkCells g h a b c = [.string ⟨g.name.toArray⟩, .bool g.mand, .int .u32 (g.off : Int), .int .u32 (g.len : Int), .int .u32 (g.cpus : Int), .int .u64 (g.entry : Int), .int .u64 (g.dtb : Int)] ++ bcells g.key ++ ([.slice g.wA g.wn g.wc, g.dev, g.irq, g.stm] ++ hdCells h ++ [a, b, c]) := by simp [lkCells, Gu.cells]
  have H2 := H
  unfold Lk at H2
  rw [e] at H2
  have := rd_of_range (range_of (n := 7) H2 rfl) H.lt
  rwa [bcells_length, hk] at this
theorem Lk.win (H : Lk w x g h a b c) (hk : g.key.length = 68) : w.cell? ⟨x, 75, none⟩ = some (.slice g.wA g.wn g.wc) := by
  have e : lkCells g h a b c = ([.string ⟨g.name.toArray⟩, .bool g.mand, .int .u32 (g.off : Int), .int .u32 (g.len : Int), .int .u32 (g.cpus : Int), .int .u64 (g.entry : Int), .int .u64 (g.dtb : Int)] ++ bcells g.key) ++ ([.slice g.wA g.wn g.wc, g.dev, g.irq, g.stm] ++ hdCells h ++ [a, b, c]) := by simp [lkCells, Gu.cells]
  rw [H.cell, e, List.getElem?_toArray]
  exact get_app (n := 75) (by simp [bcells_length, hk]) 0
theorem Lk.at_hd (H : Lk w x g h a b c) (hk : g.key.length = 68) (k : Nat) : w.cell? ⟨x, 79 + k, none⟩ = (hdCells h ++ [a, b, c])[k]? := by
  rw [H.cell, List.getElem?_toArray, lkCells, List.append_assoc, get_app (g.cells_length hk)]
theorem Lk.ver (H : Lk w x g h a b c) (hk : g.key.length = 68) : w.cell? ⟨x, 79, none⟩ = some (.int .u32 (h.ver : Int)) := H.at_hd hk 0
theorem Lk.hname (H : Lk w x g h a b c) (hk : g.key.length = 68) : w.cell? ⟨x, 81, none⟩ = some (.string ⟨h.name.toArray⟩) := H.at_hd hk 2
theorem Lk.dig (H : Lk w x g h a b c) (hk : g.key.length = 68) (_hd : h.dig.length = 32) : w.rangeAt x 82 (bcells h.dig) := by
  have e : lkCells g h a b c = (g.cells ++ [.int .u32 (h.ver : Int), .int .u32 (h.size : Int), .string ⟨h.name.toArray⟩]) ++ bcells h.dig ++ [a, b, c] := by simp [lkCells, hdCells]
  have H2 := H
  unfold Lk at H2
  rw [e] at H2
  exact range_of (n := 82) H2 (by simp [g.cells_length hk])
theorem Lk.at_s (H : Lk w x g h a b c) (hk : g.key.length = 68) (hd : h.dig.length = 32) (k : Nat) : w.cell? ⟨x, 114 + k, none⟩ = [a, b, c][k]? := by
  rw [H.cell, List.getElem?_toArray, lkCells]
  exact get_app (by simp [g.cells_length hk, hdCells_length h hd]) k
theorem Lk.s1 (H : Lk w x g h a b c) (hk : g.key.length = 68) (hd : h.dig.length = 32) : w.cell? ⟨x, 114, none⟩ = some a := H.at_s hk hd 0
theorem Lk.s2 (H : Lk w x g h a b c) (hk : g.key.length = 68) (hd : h.dig.length = 32) : w.cell? ⟨x, 115, none⟩ = some b := H.at_s hk hd 1
theorem Lk.s3 (H : Lk w x g h a b c) (hk : g.key.length = 68) (hd : h.dig.length = 32) : w.cell? ⟨x, 116, none⟩ = some c := H.at_s hk hd 2
theorem lk_size (hk : g.key.length = 68) (hd : h.dig.length = 32) : (lkCells g h a b c).toArray.size = 117 := by simp [lkCells, g.cells_length hk, hdCells_length h hd]
theorem lk_splice (hk : g.key.length = 68) (hd : h.dig.length = 32) (h2 : Hd) (hd2 : h2.dig.length = 32) : (splice (lkCells g h a b c).toArray.toList 79 (hdCells h2).toArray.toList).toArray = (lkCells g h2 a b c).toArray := by
  have t1 : (g.cells ++ hdCells h ++ [a, b, c]).take 79 = g.cells := by rw [List.append_assoc, List.take_left' (g.cells_length hk)]
  have t2 : (g.cells ++ hdCells h ++ [a, b, c]).drop (79 + (hdCells h2).length) = [a, b, c] := List.drop_left' (by rw [List.length_append, g.cells_length hk, hdCells_length h hd, hdCells_length h2 hd2])
  simp only [splice, lkCells]
  rw [t1, t2, List.append_assoc]
theorem lk_set (hk : g.key.length = 68) (hd : h.dig.length = 32) (k : Nat) (v : Value) : (lkCells g h a b c).toArray.setIfInBounds (114 + k) v = (g.cells ++ hdCells h ++ [a, b, c].set k v).toArray := by
  rw [List.setIfInBounds_toArray, lkCells, List.set_append_right _ _ (by simp [g.cells_length hk, hdCells_length h hd])]
  congr 3
  simp [g.cells_length hk, hdCells_length h hd]
end
/-- x.f = v, a slice, in a look -/
theorem wpList_lkS {P : Program} {ops : Array Oper} {rest : List Oper} {o : Oper} {a : Act} {Q : Exit → Act → World → Prop} {w : World} {x : Nat} {g : Gu} {h : Hd} {A B C : Value} (H : Lk w x g h A B C) (hk : g.key.length = 68) (hd : h.dig.length = 32) (hw : Region.wanted o (yielded ops a.tmps) = true)
    {ty : TypeId} {p q : Tmp} (ho : o.op = .store ty (.tmp p) (.tmp q)) (hi : (P.info? ty).map (·.size) = some 1) (k : Nat) (hk3 : k < 3) {Ad : Option Addr} {n c : Nat}
    (hx : a.tmps[p]?.getD undef = .pointer (some ⟨x, 114 + k, none⟩)) (hy : a.tmps[q]?.getD undef = .slice Ad n c)
    (hn : ∀ w', Blk w' x 82 (g.cells ++ hdCells h ++ [A, B, C].set k (.slice Ad n c)).toArray → w.grownBy w' (some x) → w'.heap.size = w.heap.size → wpList P ops Q rest (a.put o.dst undef) w') : wpList P ops Q (o :: rest) a w := by
  refine wpList_runS hw (reg_storeSlice ho hi H hx hy (by rw [lk_size hk hd]; omega)) ?_
  refine hn _ ?_ (grown_setL w x _ _) (by simp)
  have := Blk.set_ H (114 + k) (.slice Ad n c)
  rwa [lk_set hk hd] at this

set_option maxRecDepth 100000 in
theorem unless_any (b : Bool) (x : Int) (w : World) : Calls Tryz.prog 33 #[.bool b, .int .i64 x] w fun e w' => e = .returned (.int .i64 (if b then 0 else x)) ∧ w' = w := by
  cases b
  all_goals
    go_enter Tryz.func33, Tryz.ntmps33
    go_wp2
    go_ret
    exact ⟨rfl, rfl⟩

theorem FL.drew {w : World} {f : Nat} {l : List UInt8} (h : FL w f l) : FL w.drew f l := h.below (Below.refl _ _).drew
theorem rd_chgX {w w' : World} {x : Nat} {A : Option Addr} {n : Nat} {l : List UInt8} (h : Rd w w.heap.size 1 A n (bcells l)) (c : Chg (fun b => b = x) w w') (hA : ∀ y, A = some y → y.block ≠ x) : Rd w' w'.heap.size 1 A n (bcells l) := by
  refine ⟨h.len, fun k v hv => ?_⟩
  obtain ⟨y, hy, h1, h2⟩ := h.cell k v hv
  refine ⟨y, hy, Nat.lt_of_lt_of_le h1 c.size, ?_⟩
  rw [World.cell?_of_block (c.block _ (by rw [addr_block]; exact h1) (by rw [addr_block]; exact hA y hy))]
  exact h2
theorem isU8_chgX {w w' : World} {x : Nat} {A : Option Addr} (h : IsU8 w A) (c : Chg (fun b => b = x) w w') (hA : ∀ y, A = some y → y.block ≠ x) : IsU8 w' A := fun y hy => by
  obtain ⟨cs, fr, h1⟩ := h y hy
  exact ⟨cs, fr, (c.block _ (Array.getElem?_eq_some_iff.1 h1).1 (hA y hy)).trans h1⟩
theorem getV_le (l : List UInt8) (off n : Nat) : (getV l off n).length ≤ l.length := by
  unfold getV
  split
  · simp
  · split
    · simp
    · rw [List.length_take, List.length_drop]; omega
/-- what split comes to -/
def LSpl (w : World) (x : Nat) (l : List UInt8) (g : Gu) (e : Ending) (w' : World) : Prop :=
  e = .returned (.int .i64 (e0 l g)) ∧ Chg (fun b => b = x) w w' ∧ (e0 l g = 0 → ∃ A1 c1 A2 c2 A3 c3, Lk w' x g (gHd l g) (.slice A1 (splA (gReg l g) (gOid g)).length c1) (.slice A2 (splB (gReg l g) (gOid g)).length c2) (.slice A3 (gPay l g).length c3) ∧
    Rd w' w'.heap.size 1 A1 (splA (gReg l g) (gOid g)).length (bcells (splA (gReg l g) (gOid g))) ∧ Rd w' w'.heap.size 1 A2 (splB (gReg l g) (gOid g)).length (bcells (splB (gReg l g) (gOid g))) ∧ Rd w' w'.heap.size 1 A3 (gPay l g).length (bcells (gPay l g)) ∧
    ((splA (gReg l g) (gOid g)).length ≤ c1 ∧ c1 ≤ 9223372036854775807) ∧ ((splB (gReg l g) (gOid g)).length ≤ c2 ∧ c2 ≤ 9223372036854775807) ∧ ((gPay l g).length ≤ c3 ∧ c3 ≤ 9223372036854775807) ∧ (∀ y, A1 = some y ∨ A2 = some y ∨ A3 = some y → w.heap.size ≤ y.block) ∧ IsU8 w' A3)

set_option maxRecDepth 100000 in
set_option maxHeartbeats 2000000 in
theorem lsplit_any (x f : Nat) (l : List UInt8) (hl5 : l.length ≤ 1000000) (g : Gu) (w : World) (ok : g.ok w w.heap.size) (hL : Lk w x g zhd (.slice none 0 0) (.slice none 0 0) (.slice none 0 0)) (hF : FL w f l) :
    Calls Tryz.prog 29 #[.pointer (some ⟨x, 0, none⟩), .pointer (some ⟨f, 0, none⟩)] w (LSpl w x l g) := by
  obtain ⟨RG, hRG⟩ : ∃ RG, getV l g.off g.len = RG := ⟨_, rfl⟩
  obtain ⟨E0, hE0⟩ : ∃ E, getE l g.off g.len = E := ⟨_, rfl⟩
  obtain ⟨RL, hRL⟩ : ∃ RL, RG.length = RL := ⟨_, rfl⟩
  have hget := fun W h => mget_any f l hl5 g.off g.len ok.off ok.len W h
  rw [hRG, hE0] at hget
  unfold BErr at hget
  rw [hRL] at hget
  have HRG := Lib.hid hRG
  have HE0 := Lib.hid hE0
  have HRL := Lib.hid hRL
  clear hRG hE0 hRL
  go_enter Tryz.func29, Tryz.ntmps29
  go_wp2_with fail
  refine Flow.wp_region_flow (w.heap.size) [] [] (by kernel_rfl) (by kernel_rfl) (Nat.le_refl _) (fun _ h => by cases h) Flow.facts_nil ?_
  refine Flow.pass_old (X := .pointer (some ⟨f, 0, none⟩)) 1 (Flow.met_none rfl) (.inl rfl) (by kernel_rfl) (by kernel_rfl) rfl ?_
  refine Flow.pass_old (X := .pointer (some ⟨x, 0, none⟩)) 0 (Flow.met_none rfl) (.inl rfl) (by kernel_rfl) (by kernel_rfl) rfl ?_
  refine Flow.pass_val (.pointer (some ⟨x, 0, none⟩)) (Flow.met_none rfl) (fun a W hH => ?_) ?_
  · have e0 := Flow.see_new 11 1 hH.sees (by kernel_rfl) (by kernel_rfl) rfl rfl
    go_simp; first | done | rfl
  refine Flow.pass_val (.pointer (some ⟨x, 0, none⟩)) (Flow.met_none rfl) (fun a W hH => ?_) ?_
  · have e0 := Flow.see_new 12 2 hH.sees (by kernel_rfl) (by kernel_rfl) rfl rfl
    go_simp; first | done | rfl
  refine Flow.pass_val (.pointer (some ⟨x, 2, none⟩)) (Flow.met_none rfl) (fun a W hH => ?_) ?_
  · have e0 := Flow.see_new 13 3 hH.sees (by kernel_rfl) (by kernel_rfl) rfl rfl
    go_simp; first | done | rfl
  refine Flow.pass_val (.int .u32 (g.off : Int)) (Flow.met_none rfl) (fun a W hH => ?_) ?_
  · have e0 := Flow.see_new 14 4 hH.sees (by kernel_rfl) (by kernel_rfl) rfl rfl
    have cc := Lk.off (hL.drew.below hH.below hL.lt); go_simp; first | done | rfl
  refine Flow.pass_old (X := .pointer (some ⟨x, 0, none⟩)) 0 (Flow.met_none rfl) (.inl rfl) (by kernel_rfl) (by kernel_rfl) rfl ?_
  refine Flow.pass_val (.pointer (some ⟨x, 0, none⟩)) (Flow.met_none rfl) (fun a W hH => ?_) ?_
  · have e0 := Flow.see_new 16 6 hH.sees (by kernel_rfl) (by kernel_rfl) rfl rfl
    go_simp; first | done | rfl
  refine Flow.pass_val (.pointer (some ⟨x, 0, none⟩)) (Flow.met_none rfl) (fun a W hH => ?_) ?_
  · have e0 := Flow.see_new 17 7 hH.sees (by kernel_rfl) (by kernel_rfl) rfl rfl
    go_simp; first | done | rfl
  refine Flow.pass_val (.pointer (some ⟨x, 3, none⟩)) (Flow.met_none rfl) (fun a W hH => ?_) ?_
  · have e0 := Flow.see_new 18 8 hH.sees (by kernel_rfl) (by kernel_rfl) rfl rfl
    go_simp; first | done | rfl
  refine Flow.pass_val (.int .u32 (g.len : Int)) (Flow.met_none rfl) (fun a W hH => ?_) ?_
  · have e0 := Flow.see_new 19 9 hH.sees (by kernel_rfl) (by kernel_rfl) rfl rfl
    have cc := Lk.len (hL.drew.below hH.below hL.lt); go_simp; first | done | rfl
  refine Flow.pass_step (fun v W => ∃ A c, v = .tuple #[.slice A RL c, .int .i64 E0] ∧ (RL ≤ c ∧ Rd W W.heap.size 1 A RL (bcells RG))) (Flow.kept_of (fun _ _ _ c ⟨A, k, h1, h2, h3⟩ => ⟨A, k, h1, h2, h3.ext c.ext⟩) Flow.kz_nil) (Flow.met_none rfl) (fun a W hH => ?_) ?_
  · have e0 := Flow.see_new 10 0 hH.sees (by kernel_rfl) (by kernel_rfl) rfl rfl
    have e1 := Flow.see_new 15 5 hH.sees (by kernel_rfl) (by kernel_rfl) rfl rfl
    have e2 := Flow.see_new 20 10 hH.sees (by kernel_rfl) (by kernel_rfl) rfl rfl
    refine Reg.wp_call rfl Tryz.func73 rfl (by kernel_rfl) (by simp [Act.eval, e0, e1, e2]) (hget W ((FL.drew hF).below hH.below)) ?_
    rintro e w' ⟨A, c, rfl, h1, h2, hB⟩
    exact ⟨_, rfl, _, rfl, hB, A, c, rfl, h1, h2⟩
  refine Flow.pass_copy 21 11 (Flow.met_none rfl) (.inl rfl) (by kernel_rfl) (by kernel_rfl) rfl rfl (Flow.kept_of (fun _ _ _ c ⟨A, k, h1, h2, h3⟩ => ⟨A, k, h1, h2, h3.ext c.ext⟩) Flow.kz_nil) ?_
  refine Flow.pass_gen (fun v W => ∃ A c, v = .slice A RL c ∧ (RL ≤ c ∧ Rd W W.heap.size 1 A RL (bcells RG))) (Flow.kept_of (fun _ _ _ c ⟨A, k, h1, h2, h3⟩ => ⟨A, k, h1, h2, h3.ext c.ext⟩) Flow.kz_nil) (Flow.met_none rfl) (fun a W hH => ?_) ?_
  · obtain ⟨A0, c0, e0, q0⟩ := Flow.see_up 9 12 hH.sees (by kernel_rfl) (by kernel_rfl) rfl rfl
    refine Flow.wp_run (v := .slice A0 RL c0) (w' := W) (by go_simp; first | done | rfl) ?_
    exact ⟨_, rfl, Chg.of_ext (Ext.refl W), A0, c0, rfl, q0⟩
  refine Flow.pass_val (.int .i64 E0) (Flow.met_none rfl) (fun a W hH => ?_) ?_
  · obtain ⟨A0, c0, e0, q0⟩ := Flow.see_up 9 12 hH.sees (by kernel_rfl) (by kernel_rfl) rfl rfl
    go_simp; first | done | rfl
  refine Flow.pass_copy 22 13 (Flow.met_none rfl) (.inr rfl) (by kernel_rfl) (by kernel_rfl) rfl rfl (Flow.kept_of (fun _ _ _ c ⟨A, k, h1, h2, h3⟩ => ⟨A, k, h1, h2, h3.ext c.ext⟩) Flow.kz_nil) ?_
  refine Flow.pass_copy 23 14 (Flow.met_none rfl) (.inr rfl) (by kernel_rfl) (by kernel_rfl) rfl rfl (fun _ _ => Flow.kept_eqs _ _) ?_
  refine Flow.pass_end [none, none, none, none, none, some 5, some 6, none, none, some 9, some 10, some 11, some 12, some 13, some 14, some 15, some 16, some 17, some 18, some 19, some 20, some 21, some 22, some 23, none, none, none, none, none, none, none, none, none, none, none, none, none, none, none, none, none, none, none, none, none, none, none, none, none, none, none, none, none, none, none, none, none, none] (by kernel_rfl) ?_
  intro f gg w9 hB hfa hT hfg
  obtain ⟨A5, c5, h5, g5⟩ := hT 15 _ (by kernel_rfl) rfl
  rw [← hfg 5 15 (by kernel_rfl)] at h5
  have h6 : f 6 = _ := (hfg 6 16 (by kernel_rfl)).trans (hT 16 _ (by kernel_rfl) rfl)
  have hL1 : Lk w9 x g zhd (.slice none 0 0) (.slice none 0 0) (.slice none 0 0) := hL.drew.below hB hL.lt
  have B1 : Below w.heap.size w w9 := ((Below.refl _ _).drew).trans hB
  simp only [Reg.sel, h5, h6]
  have hkey := hL1.key ok.key
  have hRL6 : RL ≤ 1000000 := by have := getV_le l g.off g.len; rw [HRG.out, HRL.out] at this; omega
  have hd32 : zhd.dig.length = 32 := rfl
  clear hT hfg hfa hget hB hL h5 h6
  by_cases h0 : E0 = 0
  · have he0 : Hid (e0 l g = splErr RG (gOid g)) := Lib.hid (by rw [e0, HE0.out, if_neg (by simpa using h0), gReg, HRG.out])
    have hbe := be32_any (some ⟨x, 7, none⟩) 68 68 0 g.key w9 hkey (by omega)
    have hsp := fun W h => mSplit_new A5 RL c5 g5.1 hRL6 RG (gOid g) W h
    obtain ⟨OI, hOI⟩ : ∃ o, gOid g = o := ⟨_, rfl⟩
    have hOI2 : rdNum g.key 0 4 false = OI := hOI
    have hHD32 : (splHd RG OI).dig.length = 32 := by
      unfold splHd
      split
      · exact (hdVal_ok _).dig
      · rfl
    obtain ⟨HD, hHD⟩ : ∃ H, splHd RG OI = H := ⟨_, rfl⟩
    obtain ⟨SA, hSA⟩ : ∃ H, splA RG OI = H := ⟨_, rfl⟩
    obtain ⟨SB, hSB⟩ : ∃ H, splB RG OI = H := ⟨_, rfl⟩
    obtain ⟨SC, hSC⟩ : ∃ H, splC RG OI = H := ⟨_, rfl⟩
    obtain ⟨SE, hSE⟩ : ∃ H, splErr RG OI = H := ⟨_, rfl⟩
    have HOI := Lib.hid hOI
    rw [hOI, hSE] at he0
    rw [hOI2] at hbe
    rw [hOI] at hsp
    unfold SplRetN at hsp
    rw [hHD, hSA, hSB, hSC, hSE] at hsp
    rw [hHD] at hHD32
    have HHD := Lib.hid hHD
    have HSA := Lib.hid hSA
    have HSB := Lib.hid hSB
    have HSC := Lib.hid hSC
    have HH := Lib.hid hHD32
    subst h0
    clear hOI hOI2 hHD hSA hSB hSC hSE hHD32 hkey
    go_wp2_with fail
    refine Calls.mono hbe ?_
    rintro e W1 ⟨rfl, rfl⟩
    go_wp2_with fail
    refine Calls.mono (hsp _ g5.2) ?_
    rintro e W2 ⟨A1, k1, A2, k2, A3, k3, rfl, r1, r2, r3, hB2, n1, n2, n3, hnew, hu3⟩
    have hL2 : Lk W2 x g zhd (.slice none 0 0) (.slice none 0 0) (.slice none 0 0) := hL1.below hB2 hL1.lt
    have hx9 := hL1.lt
    have C2 : Chg (fun b => b = x) w W2 := Chg.of_ext (B1.trans (hB2.mono B1.size))
    have hne : ∀ y, A1 = some y ∨ A2 = some y ∨ A3 = some y → y.block ≠ x := fun y hy => by have := hnew y hy; omega
    have hi3 := inf_hd
    have hnew2 : ∀ y, A1 = some y ∨ A2 = some y ∨ A3 = some y → w.heap.size ≤ y.block := fun y hy => Nat.le_trans B1.size (hnew y hy)
    clear hbe hsp hL1 hnew g5 B1 hB2
    go_wp2_with (first
      | ((with_reducible refine at_store 51 ?_); refine wpList_storeBlk W2 rfl 51 _ _ rfl x 79 82 _ (hdCells HD).toArray hL2 rfl rfl (by rw [lk_size ok.key hd32, List.size_toArray, hdCells_length HD HH.out]; omega) (by rw [List.size_toArray, hdCells_length HD HH.out]; exact inf_hd) (hdCells_one HD) ?_; intro W3 hb3 hg3 hs3; rw [lk_splice ok.key hd32 HD HH.out] at hb3; have hL3 : Lk W3 x g HD (.slice none 0 0) (.slice none 0 0) (.slice none 0 0) := hb3; have C3 := C2.trans (Chg.grown hg3 (by rintro k h; cases h; rfl)); have D3 : Chg (fun b => b = x) W2 W3 := Chg.grown hg3 (by rintro k h; cases h; rfl); have z1 := rd_chgX r1 (Chg.grown hg3 (by rintro k h; cases h; rfl)) (fun y h => hne y (.inl h)); have z2 := rd_chgX r2 (Chg.grown hg3 (by rintro k h; cases h; rfl)) (fun y h => hne y (.inr (.inl h))); have z3 := rd_chgX r3 (Chg.grown hg3 (by rintro k h; cases h; rfl)) (fun y h => hne y (.inr (.inr h))); clear hb3 hg3 hs3)
      | ((with_reducible refine at_store 22 ?_); refine wpList_lkS hL5 ok.key HH.out rfl rfl (by kernel_rfl) 2 (by omega) rfl rfl ?_; intro W6 hb6 hg6 hs6; have hL6 : Lk W6 x g HD (.slice A1 SA.length k1) (.slice A2 SB.length k2) (.slice A3 SC.length k3) := hb6; have C6 := C5.trans (Chg.grown hg6 (by rintro k h; cases h; rfl)); have D6 := D5.trans (Chg.grown hg6 (by rintro k h; cases h; rfl)); have z16 := rd_chgX z15 (Chg.grown hg6 (by rintro k h; cases h; rfl)) (fun y h => hne y (.inl h)); have z26 := rd_chgX z25 (Chg.grown hg6 (by rintro k h; cases h; rfl)) (fun y h => hne y (.inr (.inl h))); have z36 := rd_chgX z35 (Chg.grown hg6 (by rintro k h; cases h; rfl)) (fun y h => hne y (.inr (.inr h))); clear hb6 hg6 hs6)
      | ((with_reducible refine at_store 22 ?_); refine wpList_lkS hL4 ok.key HH.out rfl rfl (by kernel_rfl) 1 (by omega) rfl rfl ?_; intro W5 hb5 hg5 hs5; have hL5 : Lk W5 x g HD (.slice A1 SA.length k1) (.slice A2 SB.length k2) (.slice none 0 0) := hb5; have C5 := C4.trans (Chg.grown hg5 (by rintro k h; cases h; rfl)); have D5 := D4.trans (Chg.grown hg5 (by rintro k h; cases h; rfl)); have z15 := rd_chgX z14 (Chg.grown hg5 (by rintro k h; cases h; rfl)) (fun y h => hne y (.inl h)); have z25 := rd_chgX z24 (Chg.grown hg5 (by rintro k h; cases h; rfl)) (fun y h => hne y (.inr (.inl h))); have z35 := rd_chgX z34 (Chg.grown hg5 (by rintro k h; cases h; rfl)) (fun y h => hne y (.inr (.inr h))); clear hb5 hg5 hs5)
      | ((with_reducible refine at_store 22 ?_); refine wpList_lkS hL3 ok.key HH.out rfl rfl (by kernel_rfl) 0 (by omega) rfl rfl ?_; intro W4 hb4 hg4 hs4; have hL4 : Lk W4 x g HD (.slice A1 SA.length k1) (.slice none 0 0) (.slice none 0 0) := hb4; have C4 := C3.trans (Chg.grown hg4 (by rintro k h; cases h; rfl)); have D4 := D3.trans (Chg.grown hg4 (by rintro k h; cases h; rfl)); have z14 := rd_chgX z1 (Chg.grown hg4 (by rintro k h; cases h; rfl)) (fun y h => hne y (.inl h)); have z24 := rd_chgX z2 (Chg.grown hg4 (by rintro k h; cases h; rfl)) (fun y h => hne y (.inr (.inl h))); have z34 := rd_chgX z3 (Chg.grown hg4 (by rintro k h; cases h; rfl)) (fun y h => hne y (.inr (.inr h))); clear hb4 hg4 hs4))
    go_ret
    refine ⟨ret_int he0.out.symm, C6, fun _ => ?_⟩
    have q1 : gHd l g = HD := by rw [gHd, gReg, HRG.out, HOI.out, HHD.out]
    have q2 : splA (gReg l g) (gOid g) = SA := by rw [gReg, HRG.out, HOI.out, HSA.out]
    have q3 : splB (gReg l g) (gOid g) = SB := by rw [gReg, HRG.out, HOI.out, HSB.out]
    have q4 : gPay l g = SC := by rw [gPay, gReg, HRG.out, HOI.out, HSC.out]
    rw [q1, q2, q3, q4]
    exact ⟨A1, k1, A2, k2, A3, k3, hL6, z16, z26, z36, n1, n2, n3, hnew2, isU8_chgX hu3 D6 (fun y h => hne y (.inr (.inr h)))⟩
  · have he0 : Hid (e0 l g = E0) := Lib.hid (by rw [e0, HE0.out, if_pos (by simpa using h0)])
    have hne : (E0 != 0) = true := by simpa using h0
    have H0 := Lib.hid h0
    clear h0
    go_wp2
    go_ret
    exact ⟨ret_int he0.out.symm, Chg.of_ext B1, fun h => absurd h (by rw [he0.out]; exact H0.out)⟩
end Go.Proofs.YtipdmhppadapkaaGreatDoor
