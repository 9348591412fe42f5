/-
  Parts: GdE RgM GdF.
-/
import Derived.Test.YtpellkblaeeopaaGreatDoorC31
import Derived.Test.YtpellkblaeeopaaGreatDoorC15
import Derived.Test.YtpellkblaeeopaaGreatDoorC03
import Derived.Test.YtpellkblaeeopaaGreatDoorC10
import Derived.Test.YtpellkblaeeopaaGreatDoorC00
import Derived.RangeFuncNested
import Derived.Test.YtpellkblaeeopaaGreatDoorC16
import Derived.Test.YtpellkblaeeopaaGreatDoorC27
/-
  Walks: room.virtual, physical, Good (of parts one behind the other).
-/
namespace Go.Proofs.YtpellkblaeeopaaGreatDoor
open Go.RowKit

def Mp.v (m : Mp) : Sp := ⟨m.ipa, m.size⟩
def Mp.p (m : Mp) : Sp := ⟨m.pa, m.size⟩
set_option maxRecDepth 100000 in
set_option maxHeartbeats 400000 in
theorem virtual_any (m : Mp) (w : World) : Calls Tryz.prog 92 #[.agg m.cells] w fun e w' => e = .returned (.agg m.v.cells) ∧ Below w.heap.size w w' := by
  simp only [Mp.cells, Mp.v, Sp.cells]
  go_enter Tryz.func92, Tryz.ntmps92
  go_wp2
  have hb := Blk.new (w.alloc (.cells #[.int .u64 (m.ipa : Int), .int .u64 (m.pa : Int), .int .u64 (m.size : Int), .int .i64 3, .int .i64 0] 91)) 25 #[.int .u64 (m.ipa : Int), .int .u64 (m.size : Int)]
  refine bodyPost_ret (results_cellS (cs := #[.int .u64 (m.ipa : Int), .int .u64 (m.size : Int)]) rfl _ _ (w.heap.size + 1) _ _ _ rfl (by rw [World.size_alloc] at hb; exact hb) Tryz.underlying25 rfl infSpan) rfl ?_
  exact ⟨rfl, ((Below.refl _ w).alloc (Nat.le_refl _) _).alloc (by simp) _⟩
set_option maxRecDepth 100000 in
set_option maxHeartbeats 400000 in
theorem physical_any (m : Mp) (w : World) : Calls Tryz.prog 93 #[.agg m.cells] w fun e w' => e = .returned (.agg m.p.cells) ∧ Below w.heap.size w w' := by
  simp only [Mp.cells, Mp.p, Sp.cells]
  go_enter Tryz.func93, Tryz.ntmps93
  go_wp2
  have hb := Blk.new (w.alloc (.cells #[.int .u64 (m.ipa : Int), .int .u64 (m.pa : Int), .int .u64 (m.size : Int), .int .i64 3, .int .i64 0] 91)) 25 #[.int .u64 (m.pa : Int), .int .u64 (m.size : Int)]
  refine bodyPost_ret (results_cellS (cs := #[.int .u64 (m.pa : Int), .int .u64 (m.size : Int)]) rfl _ _ (w.heap.size + 1) _ _ _ rfl (by rw [World.size_alloc] at hb; exact hb) Tryz.underlying25 rfl infSpan) rfl ?_
  exact ⟨rfl, ((Below.refl _ w).alloc (Nat.le_refl _) _).alloc (by simp) _⟩
theorem mapsFrom_get : ∀ (S : List Sp) (i k : Nat), (mapsFrom i S)[k]? = (S[k]?).map fun s => ⟨i + sumS (S.take k), s.base, s.size⟩
  | [], i, k => by simp [mapsFrom]
  | s :: S, i, 0 => by simp [mapsFrom, sumS]
  | s :: S, i, k + 1 => by
    simp only [mapsFrom, List.getElem?_cons_succ, mapsFrom_get S (i + s.size) k, List.take_succ_cons, sumS, List.map_cons, List.sum_cons, Nat.add_assoc]
theorem infMap : (Tryz.prog.info? 91).map (·.size) = some 5 := by kernel_rfl
theorem pcells_get (l : List Mp) (k : Nat) (m : Mp) (h : l[k]? = some m) (j : Nat) (hj : j < 5) : (pcells l)[k * 5 + j]? = m.cells.toList[j]? := by
  induction l generalizing k with
  | nil => simp at h
  | cons s l ih =>
    have e : pcells (s :: l) = s.cells.toList ++ pcells l := rfl
    rw [e]
    have hl : s.cells.toList.length = 5 := rfl
    cases k with
    | zero =>
      simp only [List.getElem?_cons_zero, Option.some.injEq] at h
      subst h
      rw [List.getElem?_append_left (by omega)]; simp
    | succ k =>
      rw [List.getElem?_append_right (by omega), hl, show (k + 1) * 5 + j - 5 = k * 5 + j by omega]
      exact ih k (by simpa using h)
theorem rd_map {w : World} {B b off n : Nat} {l : List Mp} (h : Rd w B 5 (some ⟨b, off, none⟩) n (pcells l)) (k : Nat) (m : Mp) (hk : l[k]? = some m) : w.rangeAt b (off + k * 5) m.cells.toList := by
  intro j v hv
  have hj : j < 5 := by have := (List.getElem?_eq_some_iff.1 hv).1; exact this
  obtain ⟨a, e, _, hc⟩ := h.cell (k * 5 + j) v ((pcells_get l k m hk j hj).trans hv)
  cases e
  rw [Addr.add_mid] at hc
  rw [show off + k * 5 + j = off + (k * 5 + j) by omega]
  exact hc
def spZ : Array Value := #[.int .u64 0, .int .u64 0]
theorem zeroSpan : ∀ w : World, (zeroValue 25).run Tryz.prog w = .ok (.agg spZ) w := fun w => by kernel_rfl
/-- what is asked of the stretches of an address space that begins at 0 -/
structure Strs (S : List Sp) : Prop where
  pg : ∀ s ∈ S, s.pages = true ∧ s.base + s.size ≤ 1099511627776
  sum : sumS S ≤ 1099511627776
theorem sumS_take (S : List Sp) (k : Nat) (s : Sp) (h : S[k]? = some s) : sumS (S.take (k + 1)) = sumS (S.take k) + s.size := by
  rw [List.take_add_one, h]; simp [sumS_append]; simp [sumS]
theorem sumS_le (S : List Sp) (k : Nat) : sumS (S.take k) ≤ sumS S := by
  have := sumS_append (S.take k) (S.drop k)
  rw [List.take_append_drop] at this; omega
theorem sumS_mod : ∀ (S : List Sp), (∀ s ∈ S, s.size % 4096 = 0) → sumS S % 4096 = 0
  | [], _ => rfl
  | s :: S, h => by
    have h1 := h s (List.mem_cons_self ..)
    have h2 := sumS_mod S (fun x hx => h x (List.mem_cons_of_mem _ hx))
    simp only [sumS, List.map_cons, List.sum_cons] at *
    omega
set_option maxRecDepth 100000 in
set_option maxHeartbeats 4000000 in
theorem rgoodM_any (b off n c : Nat) (S : List Sp) (hS : Strs S) (hn1 : n ≤ 1000000) (w : World) (hR : Rd w w.heap.size 5 (some ⟨b, off, none⟩) n (pcells (mapsFrom 0 S))) :
    Calls Tryz.prog 57 #[.slice (some ⟨b, off, none⟩) n c] w (BoolRet w true) := by
  have hln : S.length = n := by have := hR.len; rw [pcells_length, mapsFrom_length] at this; omega
  have HLN := Lib.hid hln
  have HS := Lib.hid hS
  clear hln hS
  go_enter Tryz.func57, Tryz.ntmps57
  go_wp2
  go_loopw [3, 10] (fun z i wr => ∃ k : Nat, k ≤ n ∧ i = .int .i64 (k : Int) ∧ z = .int .u64 ((sumS (S.take k) : Nat) : Int) ∧ Below w.heap.size w wr) (fun _ i _ => n - (intOf i).toNat)
  case atStart => exact ⟨0, Nat.zero_le _, rfl, rfl, Below.refl _ _⟩
  case round =>
    obtain ⟨k, hk, rfl, rfl, hBw⟩ := hrel
    by_cases hlt : k < n
    · obtain ⟨s, hs⟩ : ∃ s, S[k]? = some s := ⟨_, List.getElem?_eq_getElem (by rw [HLN.out]; exact hlt)⟩
      obtain ⟨hs1, hs2⟩ := HS.out.pg s (List.mem_of_getElem? hs)
      have hst := sumS_take S k s hs
      have hle := sumS_le S (k + 1)
      have hsum := HS.out.sum
      have hmk := mapsFrom_get S 0 k
      rw [hs] at hmk
      simp only [Option.map_some, Nat.zero_add] at hmk
      have hrng := rd_map (hR.below hBw) k _ hmk
      have hsm4 : sumS (S.take k) % 4096 = 0 := sumS_mod _ (fun x hx => by
        have := (HS.out.pg x (List.mem_of_mem_take hx)).1
        simp only [Sp.pages, decide_eq_true_eq] at this; omega)
      obtain ⟨x, hx⟩ : ∃ x, x = sumS (S.take k) := ⟨_, rfl⟩
      rw [← hx] at hst hrng hsm4 ⊢
      have HST := Lib.hid hst
      have HX := Lib.hid hx
      have hxs : x + s.size ≤ 1099511627776 := by omega
      simp only [Mp.cells] at hrng
      have g0 := Blk.new wr 91 (Mp.cells ⟨x, s.base, s.size⟩)
      have B0 : Below w.heap.size w (wr.alloc (.cells (Mp.cells ⟨x, s.base, s.size⟩) 91)) := hBw.alloc hBw.size _
      simp only [Mp.cells] at g0 B0
      clear hst hx hle hsum hmk hs
      go_wp2_with (first
          | ((with_reducible refine at_load 91 ?_); refine wpList_load_mid rfl 91 _ rfl b (off + k * 5) rfl [.int .u64 (x : Int), .int .u64 (s.base : Int), .int .u64 (s.size : Int), .int .i64 3, .int .i64 0] _ hrng Tryz.underlying91 rfl infMap ?_))
      have hl0 := g0.lt
      generalize wr.alloc (.cells #[.int .u64 (x : Int), .int .u64 (s.base : Int), .int .u64 (s.size : Int), .int .i64 3, .int .i64 0] 91) = W1 at *
      have hwl := hBw.size
      refine Reg.wp_region_tail 6 [4, 5] (by kernel_rfl) (by kernel_rfl) (by kernel_rfl) (by kernel_rfl) (by kernel_rfl) ?_
      refine Reg.pass_val (.agg (Mp.cells ⟨x, s.base, s.size⟩)) (Reg.met_none rfl) (fun a W hE hS => ?_) ?_
      · have e0 := Reg.see_old 5 hS (by kernel_rfl) (by kernel_rfl) rfl
        exact reg_load 91 _ rfl e0 (g0.drew.ext hE) Tryz.underlying91 rfl infMap
      refine Reg.pass_step (Reg.eqs (.agg (Sp.cells ⟨x, s.size⟩))) (Reg.stable_eqs _) (Reg.met_none rfl) (fun a W hE hS => ?_) ?_
      · have e0 := Reg.see_new 14 0 hS (by kernel_rfl) (by kernel_rfl) rfl rfl
        refine Reg.wp_call rfl Tryz.func92 rfl (by kernel_rfl) (by simp [Act.eval, e0]) (virtual_any ⟨x, s.base, s.size⟩ W) ?_
        rintro e w' ⟨rfl, hB⟩
        exact ⟨_, rfl, _, rfl, hB, rfl⟩
      refine Reg.pass_val (.agg (Mp.cells ⟨x, s.base, s.size⟩)) (Reg.met_none rfl) (fun a W hE hS => ?_) ?_
      · have e0 := Reg.see_old 5 hS (by kernel_rfl) (by kernel_rfl) rfl
        exact reg_load 91 _ rfl e0 (g0.drew.ext hE) Tryz.underlying91 rfl infMap
      refine Reg.pass_step (Reg.eqs (.agg (Sp.cells ⟨s.base, s.size⟩))) (Reg.stable_eqs _) (Reg.met_none rfl) (fun a W hE hS => ?_) ?_
      · have e0 := Reg.see_new 16 2 hS (by kernel_rfl) (by kernel_rfl) rfl rfl
        refine Reg.wp_call rfl Tryz.func93 rfl (by kernel_rfl) (by simp [Act.eval, e0]) (physical_any ⟨x, s.base, s.size⟩ W) ?_
        rintro e w' ⟨rfl, hB⟩
        exact ⟨_, rfl, _, rfl, hB, rfl⟩
      refine Reg.pass_new 25 spZ rfl rfl zeroSpan ?_
      refine Reg.pass_new 25 spZ rfl rfl zeroSpan ?_
      refine ⟨fun i hi o ho => ?_, ?_⟩
      · simp only [List.mem_cons, List.not_mem_nil, or_false] at hi
        rcases hi with rfl | rfl
        · cases ho; exact ⟨_, _, rfl, rfl, zeroSpan, rfl⟩
        · cases ho; exact ⟨_, _, rfl, rfl, zeroSpan, rfl⟩
      refine Reg.tail_end [none, none, none, none, none, none, some 6, some 7, none, none, none, none, none, none, some 14, some 15, some 16, some 17, none, none, none, none, none, none, none, none, none, none, none, none, none, none, none, none, none, none, none, none, none, none, none, none, none, none, none, none, none, none, none, none, none, none, none, none, none, none, none, none, none, none, none, none, none] (by kernel_rfl) ?_
      intro ff w9 hE hf hfr
      obtain ⟨b6, h6, hz6⟩ : Reg.newK 25 spZ (ff 6) w9 := hf 6 4 _ (by kernel_rfl) (by decide) rfl
      obtain ⟨b6', e6', hl6, hd6⟩ := hfr 4 (by simp) 6 (by kernel_rfl)
      obtain ⟨b7, h7, hz7⟩ : Reg.newK 25 spZ (ff 7) w9 := hf 7 5 _ (by kernel_rfl) (by decide) rfl
      obtain ⟨b7', e7', hl7, hd7⟩ := hfr 5 (by simp) 7 (by kernel_rfl)
      have h14 : ff 14 = _ := hf 14 0 _ (by kernel_rfl) (by decide) rfl
      have h15 : ff 15 = _ := hf 15 1 _ (by kernel_rfl) (by decide) rfl
      have h16 : ff 16 = _ := hf 16 2 _ (by kernel_rfl) (by decide) rfl
      have h17 : ff 17 = _ := hf 17 3 _ (by kernel_rfl) (by decide) rfl
      have d6_7 : b6 ≠ b7 := by
        intro e
        have := hd6 5 (by simp) (by decide) 7 (by kernel_rfl)
        rw [h7] at this
        exact this (by rw [← e6', h6, e])
      have g6 : (W1.heap.size) ≤ b6 := by
        rw [h6] at e6'
        simp only [Reg.ptr, Value.pointer.injEq, Option.some.injEq, Addr.mk.injEq, and_true] at e6'
        rw [e6']; exact hl6.1
      have l6 : b6 < w9.heap.size := hz6.lt
      have g7 : (W1.heap.size) ≤ b7 := by
        rw [h7] at e7'
        simp only [Reg.ptr, Value.pointer.injEq, Option.some.injEq, Addr.mk.injEq, and_true] at e7'
        rw [e7']; exact hl7.1
      have l7 : b7 < w9.heap.size := hz7.lt
      clear hf hfr e6' hl6 hd6 e7' hl7 hd7
      have hg9 := g0.drew.ext hE
      have B9 : Below w.heap.size w w9 := B0.trans ((((Below.refl _ W1).drew).trans (hE.below (Nat.le_refl _))).mono B0.size)
      have HW1 := Lib.hid B0.size
      simp only [Reg.sel, h6, h7, h14, h15, h16, h17, Reg.ptr, List.drop_succ_cons, List.drop_zero]
      clear hE g0 B0
      have hn57 : wr.heap.size ≠ b6 := by omega
      have hn58 : wr.heap.size ≠ b7 := by omega
      go_wp2_with (first
        | ((with_reducible refine at_store 25 ?_); refine wpList_storeAll _ rfl 25 _ _ rfl b6 25 spZ (Sp.cells ⟨x, s.size⟩) hz6 rfl rfl rfl infSpan (sp_one _) ?_; intro W2 hb6 hg2 hs2; clear hs2; have hz7' := hz7.grown hg2 (fun e => d6_7 (Option.some.inj e).symm); have hg92 := hg9.grown hg2 (fun e => hn57 (Option.some.inj e)); have B92 := grown_below B9 hg2 B9.size (by have := HW1.out; omega))
        | ((with_reducible refine at_store 25 ?_); refine wpList_storeAll _ rfl 25 _ _ rfl b7 25 spZ (Sp.cells ⟨s.base, s.size⟩) hz7' rfl rfl rfl infSpan (sp_one _) ?_; intro W3 hb7 hg3 hs3; clear hs3; have hb6' := hb6.grown hg3 (fun e => d6_7 (Option.some.inj e)); have hg93 := hg92.grown hg3 (fun e => hn58 (Option.some.inj e)); have B93 := grown_below B92 hg3 B92.size (by have := HW1.out; omega))
        | ((with_reducible refine at_load 25 ?_); refine wpList_loadAll _ rfl 25 _ rfl b6 25 (Sp.cells ⟨x, s.size⟩) hb6' _ rfl Tryz.underlying25 rfl infSpan ?_)
        | ((with_reducible refine at_load 25 ?_); refine wpList_loadAll _ rfl 25 _ rfl b7 25 (Sp.cells ⟨s.base, s.size⟩) hb7 _ rfl Tryz.underlying25 rfl infSpan ?_)
        | ((with_reducible refine at_buildSlice 34 ?_); refine wpList_runV rfl (Flow.reg_buildSlice #[(0, .agg (Sp.cells ⟨x, s.size⟩)), (1, .agg (Sp.cells ⟨s.base, s.size⟩))] rfl (by simp [Act.eval, Act.put]) (run_spans2 _ ⟨x, s.size⟩ ⟨s.base, s.size⟩)) ?_))
      have hbs := Blk.new W3 25 (scells [⟨x, s.size⟩, ⟨s.base, s.size⟩]).toArray
      have B4 := B93.alloc B93.size (.cells (scells [⟨x, s.size⟩, ⟨s.base, s.size⟩]).toArray 25)
      have E4 : Ext W3 (W3.alloc (.cells (scells [⟨x, s.size⟩, ⟨s.base, s.size⟩]).toArray 25)) := (Ext.refl W3).alloc _
      have ok1 : (⟨x, s.size⟩ : Sp).ok := ⟨by simp only; omega, by simp only; omega⟩
      have ok2 : (⟨s.base, s.size⟩ : Sp).ok := ⟨by simp only; omega, by simp only; omega⟩
      have hsp : 0 < s.size ∧ s.size % 4096 = 0 ∧ s.base % 4096 = 0 := by
        simp only [Sp.pages, decide_eq_true_eq] at hs1; have := Sp.good_iff.1 hs1.1; omega
      have hg1 : (⟨x, s.size⟩ : Sp).good = true := Sp.good_iff.2 (by simp only; omega)
      have hg2' : (⟨s.base, s.size⟩ : Sp).good = true := Sp.good_iff.2 (by simp only; omega)
      have hall : [(⟨x, s.size⟩ : Sp), ⟨s.base, s.size⟩].all Sp.pages = true := by
        simp only [List.all_cons, List.all_nil, Bool.and_true, Bool.and_eq_true, Sp.pages, decide_eq_true_eq]
        refine ⟨⟨hg1, ?_⟩, ⟨hg2', ?_⟩⟩ <;> first | omega | (constructor <;> first | omega | trivial) | trivial
      have hpg := mpages_any W3.heap.size 0 2 2 [⟨x, s.size⟩, ⟨s.base, s.size⟩] (by intro y hy; simp only [List.mem_cons, List.not_mem_nil, or_false] at hy; rcases hy with rfl | rfl; exact ok1; exact ok2) _ (hbs.rd rfl) (by omega)
      rw [hall] at hpg
      have hl1 := last_any ⟨x, s.size⟩ ok1
      have hl2 := last_any ⟨s.base, s.size⟩ ok2
      have HWs := Lib.hid hwl
      rw [show (⟨x, s.size⟩ : Sp).last = x + s.size - 1 by rw [Sp.last, if_pos hg1]] at hl1
      rw [show (⟨s.base, s.size⟩ : Sp).last = s.base + s.size - 1 by rw [Sp.last, if_pos hg2']] at hl2
      obtain ⟨L1, hL1⟩ : ∃ L, L = x + s.size - 1 := ⟨_, rfl⟩
      obtain ⟨L2, hL2⟩ : ∃ L, L = s.base + s.size - 1 := ⟨_, rfl⟩
      rw [← hL1] at hl1
      rw [← hL2] at hl2
      have hd1 : decide ((1099511627776 : Int) ≤ (L1 : Int)) = false := by simp; omega
      have hd2 : decide ((1099511627776 : Int) ≤ (L2 : Int)) = false := by simp; omega
      have k6 := hb6'.ext E4
      have k7 := hb7.ext E4
      have kg := hg93.ext E4
      clear hg1 hg2' hall hL1 hL2 hbs hz6 hz7 hb6 hb7 hb6' hz7' hg9 hg92 hg93 hg2 hg3 B9 B92 B93 E4 h6 h7 h14 h15 h16 h17 hn57 hn58 g6 g7 l6 l7 d6_7 hl0
      generalize W3.alloc (.cells (scells [⟨x, s.size⟩, ⟨s.base, s.size⟩]).toArray 25) = W4 at *
      refine hpg.mono ?_
      rintro e W5 ⟨rfl, hB5⟩
      have k6 := k6.below hB5 k6.lt
      have k7 := k7.below hB5 k7.lt
      have kg := kg.below hB5 kg.lt
      have B5 := B4.trans (hB5.mono B4.size)
      clear hpg B4 hB5
      go_wp2_with (first
        | ((with_reducible refine at_load 25 ?_); refine wpList_loadAllW _ rfl 25 _ rfl b6 25 (Sp.cells ⟨x, s.size⟩) k6 _ rfl Tryz.underlying25 rfl infSpan ?_)
        | ((with_reducible refine at_load 25 ?_); refine wpList_loadAllW _ rfl 25 _ rfl b7 25 (Sp.cells ⟨s.base, s.size⟩) k7 _ rfl Tryz.underlying25 rfl infSpan ?_))
      refine (hl1 _).mono ?_
      rintro e W6 ⟨rfl, hB6⟩
      have k7 := k7.below hB6 k7.lt
      have kg := kg.below hB6 kg.lt
      have B6 := B5.trans (hB6.mono B5.size)
      clear hl1 B5 hB6
      go_wp2_with (first
        | ((with_reducible refine at_load 25 ?_); refine wpList_loadAllW _ rfl 25 _ rfl b7 25 (Sp.cells ⟨s.base, s.size⟩) k7 _ rfl Tryz.underlying25 rfl infSpan ?_))
      refine (hl2 _).mono ?_
      rintro e W7 ⟨rfl, hB7⟩
      have kg := kg.below hB7 kg.lt
      have B7 := B6.trans (hB7.mono B6.size)
      have c0 : W7.cell? ⟨wr.heap.size, 0, none⟩ = some (.int .u64 (x : Int)) := (kg.cell 0).trans rfl
      have c2 : W7.cell? ⟨wr.heap.size, 2, none⟩ = some (.int .u64 (s.size : Int)) := (kg.cell 2).trans rfl
      have c3 : W7.cell? ⟨wr.heap.size, 3, none⟩ = some (.int .i64 3) := (kg.cell 3).trans rfl
      have c4 : W7.cell? ⟨wr.heap.size, 4, none⟩ = some (.int .i64 0) := (kg.cell 4).trans rfl
      have hw2 : IntKind.u64.wrap ((x : Int) + (s.size : Int)) = ((x + s.size : Nat) : Int) := by rw [IntWalk.u64_in _ (by omega)]; omega
      clear hl2 B6 hB7
      go_wp2
      go_roundw
      case rel => exact ⟨k + 1, by omega, by go_num, by rw [HST.out]; first | rfl | rw [hw2], B7⟩
      case measure => simp [intOf]; omega
    · obtain rfl : k = n := by omega
      go_wp2
      go_ret
      exact ⟨rfl, hBw⟩
end Go.Proofs.YtpellkblaeeopaaGreatDoor
/-
  A range over a function whose iterator writes blocks of its own between its yields.
-/
namespace Go.Proofs.YtpellkblaeeopaaGreatDoor
open Go.RowKit

/-- what an iterator does that may write the blocks Zm (its captured boxes) between its yields -/
def SeqStopsM {α : Type} (F : Fence) (n : Nat) (P : Program) (g : Nat) (lb : Array Value) (encs : α → Array Value) (Kp : World → World → Prop) (Zm : Nat → Prop) (Rl : List α → α → Prop) (S Sp : List α → Prop) (N : Nat) (w : World) : Prop :=
  ∀ (l : Nat) (J Jx : List α → World → Prop) (W : World), Below w.heap.size w W → AbidesFrom W.heap.size J → AbidesFrom W.heap.size Jx →
    (∀ s A B r, J s A → A.grownBy B (some r) → Zm r → J s B) →
    (∀ pre x W1, J pre W1 → pre.length < N → Rl pre x → YieldAt F (n - 1) P l (encs x) W1 fun e W' =>
      (e = .returned (.bool true) ∧ J (pre ++ [x]) W' ∧ Kp W1 W') ∨ (e = .returned (.bool false) ∧ Jx (pre ++ [x]) W')) →
    J [] W →
    CallsIn F n P g (#[.func (.yield l) #[] #[]] ++ lb) W fun e W' => (∃ v, e = .returned v) ∧ ((∃ xs, S xs ∧ J xs W') ∨ (∃ pre, Sp pre ∧ Jx pre W'))

theorem grown_at {A B : World} {r k : Nat} {o : Obj} (hg : A.grownBy B (some r)) (h : A.heap[k]? = some o) (hne : k ≠ r) : B.heap[k]? = some o :=
  (hg.block k (Array.getElem?_eq_some_iff.1 h).1 (fun e => hne (Option.some.inj e))).trans h

variable {F : Fence} {n : Nat} {P : Program} {w : World}
theorem wpIn_rangeFunc_mut {α : Type} {g : Operand} {ps : Array Tmp} {assign body : Code} {Q : Exit → Act → World → Prop} {a : Act} {w : World}
    (hro : F.round = none) (h1 : 1 ≤ n) {gf : Nat} {lb : Array Value} (hg : a.eval g = .func (.func gf) #[] lb) (hFg : F.fn gf) (eg : ∀ args w, (callFunc gf args).run P w = .ok (.enter gf args) w)
    {encs : α → Array Value} {Kp : World → World → Prop} {Zm : Nat → Prop} (hZm : ∀ r, Zm r → r < w.heap.size) {Rl : List α → α → Prop} {S Sp : List α → Prop} {N : Nat} {w0 : World} (hseq : SeqStopsM F (n - 1) P gf lb encs Kp Zm Rl S Sp N w0)
    (hKt : ∀ {A B C : World}, Kp A B → Kp B C → Kp A C) (hKb : ∀ (W : World) (l : Nat) (o o' : Obj), w.heap.size ≤ l → W.heap[l]? = some o → o.isCells = false → o.isWalk = false → Kp W (W.putObj l o')) (hb0 : Below w0.heap.size w0 w) (hps : ∀ x, (encs x).size = ps.size)
    (I : List α → World → Prop) (Ix : Code → List α → World → Prop) (hI : OwnFrom w.heap.size I) (hIx : ∀ c, OwnFrom w.heap.size (Ix c)) (hIm : ∀ s A B r, I s A → A.grownBy B (some r) → Zm r → I s B) (h0 : I [] w)
    (Ax : α → Act → World → Prop) (hAx : ∀ x a', OwnFrom w.heap.size (fun (_ : Unit) W => Ax x a' W))
    (hassign : ∀ (l : Nat) (pre : List α) (x : α) (W : World) (K : Act → World → Prop), I pre W → (∀ a' W', KeepsFrom w.heap.size W W' → Kp W W' → I pre W' → Ax x a' W' → K a' W') →
      assign.wpIn (F.inRound l) (n - 1 - 1) P (Exit.then K (fun _ _ _ => False)) { tmps := (ps.zip (encs x)).foldl (fun t (p, v) => t.setIfInBounds p v) a.tmps, defers := [] } W)
    (hbody : ∀ (l : Nat) (pre : List α) (x : α) (a' : Act) (W : World), w.heap.size ≤ l → (∃ r, W.heap[l]? = some (.loop r)) → I pre W → Ax x a' W → pre.length < N → Rl pre x → body.wpIn (F.inRound l) (n - 1 - 1) P (ownPostG w.heap.size Kp I Ix (pre ++ [x]) W) a' W)
    (hdone : ∀ (D : Nat) (xs : List α) (W : World), w.heap.size ≤ D → S xs → I xs W → W.heap[D]? = some (.deferred (some [])) → Q .normal { a with defers := { target := .collected D, args := #[] } :: a.defers } W)
    (hstop : ∀ (D : Nat) (c : Code) (pre : List α) (W : World), w.heap.size ≤ D → Sp pre → Ix c pre W → W.heap[D]? = some (.deferred (some [])) → c.wpIn F n P Q { a with defers := { target := .collected D, args := #[] } :: a.defers } W) :
    (Code.rangeFunc g ps assign body).wpIn F n P Q a w := by
  obtain ⟨B, hB⟩ : ∃ B, B = w.heap.size := ⟨_, rfl⟩
  refine wpIn_rangeFunc fun fn hfn => ?_
  rw [hro]
  -- the loop's record, ready, busy or done
  obtain ⟨R, hR⟩ : ∃ R : LoopState → Option Code → Loop, R = fun st pe => { state := st, pending := pe, fn, tmps := a.tmps, params := ps, assign, body, defers := B } := ⟨_, rfl⟩
  obtain ⟨V, hV⟩ : ∃ V, V = (w.alloc (.deferred (some []))).alloc (.loop (R .ready none)) := ⟨_, rfl⟩
  have hVs : V.heap.size = B + 2 := by rw [hV, hB]; simp
  have vl : V.heap[B + 1]? = some (.loop (R .ready none)) := by
    have := World.alloc_heap_new (w.alloc (.deferred (some []))) (.loop (R .ready none))
    rw [World.size_alloc] at this; rw [hV, hB]; exact this
  have vd : V.heap[B]? = some (.deferred (some [])) := by
    rw [hV, hB]; exact (Below.heap_alloc _ _ _ (by simp)).trans (World.alloc_heap_new w _)
  have vI : I [] V := by rw [hV]; exact hI.alloc _ (hI.alloc _ h0)
  have vB : Below w0.heap.size w0 V := by
    rw [hV]; exact hb0.trans ((((Below.refl _ w).alloc (Nat.le_refl _) _).alloc (by simp) _).mono hb0.size)
  refine ⟨B + 1, [{ target := .collected B, args := #[] }], V, { target := .fn (.func gf) lb, args := #[.func (.yield (B + 1)) #[] #[]] }, V, gf,
    #[.func (.yield (B + 1)) #[] #[]] ++ lb, V, ?_, by simp only [resolve, hg]; simp [go_sem], ?_, by simp [invoke, go_sem, eg], fun _ => h1, ?_⟩
  · rw [hV, hR, hB]; exact run_enterLoop_outer _ _ _ _ _
  · intro f' hf'; simp [Target.leads] at hf'; subst hf'; exact hFg
  have own : ∀ {X : World} {row : Option Nat}, (∀ r, row = some r → V.heap.size ≤ r ∧ ∃ o : Obj, X.heap[r]? = some o ∧ o.isWalk = true) → ∀ r, row = some r → w.heap.size ≤ r ∧ ∃ o : Obj, X.heap[r]? = some o ∧ o.isCells = false :=
    fun hr r e => by obtain ⟨hb, o, ho, hw⟩ := hr r e; exact ⟨by omega, o, ho, Obj.not_cells_of_walk hw⟩
  have hJ : AbidesFrom V.heap.size (fun (pre : List α) W => I pre W ∧ W.heap[B + 1]? = some (.loop (R .ready none)) ∧ W.heap[B]? = some (.deferred (some []))) := fun s X Y row hs hgr hr =>
    ⟨hI s X Y row hs.1 hgr (own hr), (grownBy_keeps hgr (fun r e => (hr r e).2) hs.2.1 rfl).trans hs.2.1, (grownBy_keeps hgr (fun r e => (hr r e).2) hs.2.2 rfl).trans hs.2.2⟩
  have hJx : AbidesFrom V.heap.size (fun (pre : List α) W => ∃ c, Ix c pre W ∧ W.heap[B + 1]? = some (.loop (R .done (some c))) ∧ W.heap[B]? = some (.deferred (some []))) := fun s X Y row hs hgr hr => by
    obtain ⟨c, hc, hl, hk⟩ := hs
    exact ⟨c, hIx c s X Y row hc hgr (own hr), (grownBy_keeps hgr (fun r e => (hr r e).2) hl rfl).trans hl, (grownBy_keeps hgr (fun r e => (hr r e).2) hk rfl).trans hk⟩
  have hJm : ∀ (s : List α) X Y r, (I s X ∧ X.heap[B + 1]? = some (.loop (R .ready none)) ∧ X.heap[B]? = some (.deferred (some []))) → X.grownBy Y (some r) → Zm r → (I s Y ∧ Y.heap[B + 1]? = some (.loop (R .ready none)) ∧ Y.heap[B]? = some (.deferred (some []))) := fun s X Y r hs hgr hz => by
    have := hZm r hz
    exact ⟨hIm s X Y r hs.1 hgr hz, grown_at hgr hs.2.1 (by omega), grown_at hgr hs.2.2 (by omega)⟩
  refine (hseq (B + 1) _ _ V vB hJ hJx hJm ?round ⟨vI, vl, vd⟩).mono ?behind
  case round =>
    rintro pre x W ⟨hi, hl, hd⟩ hlen hrl
    have hy := run_yield (P := P) (args := encs x) hl (by rw [hR]; exact hps x)
    rw [hR] at hy
    refine ⟨fn, _, assign, body, hy, roundIn_of_wpIn hfn (hassign _ pre x W _ hi ?_)⟩
    intro a' X kf kp xi xa
    have xl := kf.same _ _ (by omega) hl rfl
    have xd := kf.same _ _ (by omega) hd rfl
    have xlt : B + 1 < X.heap.size := (Array.getElem?_eq_some_iff.1 xl).1
    obtain ⟨X1, hX1⟩ : ∃ X1, X1 = X.putObj (B + 1) (.loop { R .ready none with state := .busy }) := ⟨_, rfl⟩
    have x1l : X1.heap[B + 1]? = some (.loop { R .ready none with state := .busy }) := by rw [hX1]; exact World.putObj_heap_same xlt
    have x1d : X1.heap[B]? = some (.deferred (some [])) := by rw [hX1]; exact (World.putObj_heap_other (by omega)).trans xd
    have x1k : Kp X X1 := by rw [hX1]; exact hKb _ _ _ _ (by omega) xl rfl rfl
    have x1i : I pre X1 := by rw [hX1]; exact hI.putObj _ xi (by omega) xl rfl
    have x1a : Ax x a' X1 := by rw [hX1]; exact (hAx x a').putObj (s := ()) _ xa (by omega) xl rfl
    refine ⟨X1, by rw [hX1]; exact run_beginRound xl (by rw [hR]), ?_⟩
    refine wpIn_mono (hbody _ pre x a' X1 (by omega) ⟨_, x1l⟩ x1i x1a hlen hrl) ?_
    have fin : ∀ (jump : Option Code) (Y : World), KeepsFrom w.heap.size X1 Y →
        (Instr.endRound (B + 1) jump).run P Y = .ok (.bool jump.isNone) (Y.putObj (B + 1) (.loop (R (if jump.isNone then .ready else .done) jump))) ∧
        Y.heap[B + 1]? = some (.loop { R .ready none with state := .busy }) ∧
        (Y.putObj (B + 1) (.loop (R (if jump.isNone then .ready else .done) jump))).heap[B + 1]? = some (.loop (R (if jump.isNone then .ready else .done) jump)) ∧
        (Y.putObj (B + 1) (.loop (R (if jump.isNone then .ready else .done) jump))).heap[B]? = some (.deferred (some [])) := fun jump Y ky => by
      have yl := ky.same _ _ (by omega) x1l rfl
      have run := run_endRound (P := P) jump yl
      rw [hR] at run yl ⊢
      exact ⟨run, yl, World.putObj_heap_same (Array.getElem?_eq_some_iff.1 yl).1, (World.putObj_heap_other (by omega)).trans (ky.same _ _ (by omega) x1d rfl)⟩
    have left : ∀ (c : Code) (Y : World), KeepsFrom w.heap.size X1 Y → Ix c (pre ++ [x]) Y → ∃ b Y', (Instr.endRound (B + 1) (some c)).run P Y = .ok b Y' ∧ b = .bool false ∧ ∃ c', Ix c' (pre ++ [x]) Y' ∧ Y'.heap[B + 1]? = some (.loop (R .done (some c'))) ∧ Y'.heap[B]? = some (.deferred (some [])) := fun c Y ky hy => by
      obtain ⟨r, yl, yl2, yd2⟩ := fin (some c) Y ky
      exact ⟨_, _, r, rfl, c, (hIx _).putObj _ hy (by omega) yl rfl, yl2, yd2⟩
    rintro e a3 Y hp
    cases e with
    | normal =>
      obtain ⟨ky, kpy, yi⟩ := hp
      obtain ⟨r, yl, yl2, yd2⟩ := fin none Y ky
      exact ⟨_, _, r, .inl ⟨rfl, ⟨hI.putObj _ yi (by omega) yl rfl, yl2, yd2⟩, hKt kp (hKt (hKt x1k kpy) (hKb _ _ _ _ (by omega) yl rfl rfl))⟩⟩
    | ret => obtain ⟨b, Y', r, rfl, h⟩ := left _ Y hp.1 hp.2; exact ⟨_, _, r, .inr ⟨rfl, h⟩⟩
    | exit id => obtain ⟨b, Y', r, rfl, h⟩ := left _ Y hp.1 hp.2; exact ⟨_, _, r, .inr ⟨rfl, h⟩⟩
    | goto t => obtain ⟨b, Y', r, rfl, h⟩ := left _ Y hp.1 hp.2; exact ⟨_, _, r, .inr ⟨rfl, h⟩⟩
    | panic ch => exact hp.elim
    | outgrown => exact hp.elim
  case behind =>
    rintro e Y ⟨⟨v, rfl⟩, (⟨xs, hS, hi, hl, hd⟩ | ⟨pre, hSp, c, hi, hl, hd⟩)⟩
    · exact ⟨none, _, by have := run_endLoop (P := P) hl (by rw [hR]; simp); rw [hR] at this; exact this, hdone B xs _ (by omega) hS (hI.putObj _ hi (by omega) hl rfl) ((World.putObj_heap_other (by omega)).trans hd)⟩
    · exact ⟨some c, _, by have := run_endLoop (P := P) hl (by rw [hR]; simp); rw [hR] at this; exact this, hstop B c pre _ (by omega) hSp ((hIx c).putObj _ hi (by omega) hl rfl) ((World.putObj_heap_other (by omega)).trans hd)⟩
end Go.Proofs.YtpellkblaeeopaaGreatDoor
/-
  Walks: table.level, pieces and its iterator.
-/
namespace Go.Proofs.YtpellkblaeeopaaGreatDoor
open Go.RowKit Go.Shelf

attribute [local go_sem] Oper.semAt_some

theorem lvN_1 : lvN 1 = 1073741824 := rfl
theorem lvN_2 : lvN 2 = 2097152 := rfl
set_option maxRecDepth 100000 in
set_option maxHeartbeats 2000000 in
theorem level_any (m : Mp) (hi : m.ipa < 18446744073709551616) (hp : m.pa < 18446744073709551616) (hm : m.size < 2097152) (w : World) : Calls Tryz.prog 63 #[.agg m.cells] w fun e w' => e = .returned (.int .i64 3) ∧ Below w.heap.size w w' := by
  have hb := Blk.new w 91 m.cells
  have B0 : Below w.heap.size w (w.alloc (.cells m.cells 91)) := (Below.refl _ w).alloc (Nat.le_refl _) _
  obtain ⟨V, hV⟩ : ∃ V : Nat, bits .or .u64 (m.ipa : Int) (m.pa : Int) = (V : Int) := ⟨_, u64_or_nat _ _ hi hp⟩
  have c0 : (w.alloc (.cells m.cells 91)).cell? ⟨w.heap.size, 0, none⟩ = some (.int .u64 (m.ipa : Int)) := (hb.cell 0).trans rfl
  have c1 : (w.alloc (.cells m.cells 91)).cell? ⟨w.heap.size, 1, none⟩ = some (.int .u64 (m.pa : Int)) := (hb.cell 1).trans rfl
  have c2 : (w.alloc (.cells m.cells 91)).cell? ⟨w.heap.size, 2, none⟩ = some (.int .u64 (m.size : Int)) := (hb.cell 2).trans rfl
  go_enter Tryz.func63, Tryz.ntmps63
  go_wp2
  clear hb
  go_loopw [3] (fun i wr => ∃ k : Nat, (k = 1 ∨ k = 2 ∨ k = 3) ∧ i = .int .i64 (k : Int) ∧ wr = w.alloc (.cells m.cells 91)) (fun i _ => 3 - (intOf i).toNat)
  case atStart => exact ⟨1, .inl rfl, rfl, rfl⟩
  case round =>
    obtain ⟨k, hk, rfl, rfl⟩ := hrel
    by_cases hlt : k < 3
    · have hS : ∀ W, Calls Tryz.prog 29 #[.int .i64 (k : Int)] W fun e w' => e = .returned (.int .u64 (lvN k : Int)) ∧ w' = W := dsize_any k hk
      have h5 : (lvN k : Int) ≠ 0 := by have := lvN_pos k; omega
      have hge : ¬ lvN k ≤ m.size := by unfold lvN; split <;> (try split) <;> omega
      obtain ⟨M, hM⟩ : ∃ M, M = lvN k := ⟨_, rfl⟩
      rw [← hM] at h5 hge
      simp only [← hM] at hS
      have h4 : decide ((M : Int) ≤ (m.size : Int)) = false := by simp; omega
      clear hM
      go_wp2_with fail
      refine (hS _).mono ?_
      rintro e w1 ⟨rfl, rfl⟩
      go_wp2_with fail
      all_goals
        go_roundw
        case rel => exact ⟨k + 1, by omega, by go_num, trivial⟩
        case measure => simp [intOf]; omega
    · obtain rfl : k = 3 := by omega
      go_wp2
      go_ret
      exact ⟨rfl, B0⟩
/-- what is left of a part behind k pieces, and the k-th piece -/
def cutM (m : Mp) (k : Nat) : Mp := ⟨m.ipa + 4096 * k, m.pa + 4096 * k, m.size - 4096 * k⟩
def pcM (m : Mp) (k : Nat) : Mp := ⟨m.ipa + 4096 * k, m.pa + 4096 * k, 4096⟩
abbrev pcEncs (x : Mp) : Array Value := #[.int .i64 3, .agg x.cells]
/-- one of a part's pieces -/
abbrev Pc (m : Mp) (n : Nat) := { y : Mp // ∃ j, j < n ∧ y = pcM m j }
abbrev pcE {m : Mp} {n : Nat} (x : Pc m n) : Array Value := pcEncs x.1
def vals {m : Mp} {n : Nat} (l : List (Pc m n)) : List Mp := l.map (·.1)
theorem vals_snoc {m : Mp} {n : Nat} (l : List (Pc m n)) (x : Pc m n) : vals (l ++ [x]) = vals l ++ [x.1] := by simp [vals]
theorem vals_length {m : Mp} {n : Nat} (l : List (Pc m n)) : (vals l).length = l.length := by simp [vals]
/-- blocks that hold a part lie as they lay -/
def KpM (W W' : World) : Prop := ∀ (b : Nat) cs f, W.heap[b]? = some (.cells cs 91 f) → W'.heap[b]? = some (.cells cs 91 f)
theorem KpM.trans {A B C : World} (h : KpM A B) (k : KpM B C) : KpM A C := fun b cs f hb => k b cs f (h b cs f hb)
theorem KpM.put {W : World} {l : Nat} {o o' : Obj} (h : W.heap[l]? = some o) (ho : o.isCells = false) : KpM W (W.putObj l o') := fun b cs f hb => by
  have hne : b ≠ l := fun e => by subst e; rw [h] at hb; cases hb; cases ho
  exact (World.putObj_heap_other hne).trans hb
theorem KpM.chg {Z : Nat → Prop} {W W' : World} (c : Chg Z W W') (hZ : ∀ b, Z b → ∀ cs f, W.heap[b]? ≠ some (.cells cs 91 f)) : KpM W W' := fun b cs f hb =>
  (c.block b (Array.getElem?_eq_some_iff.1 hb).1 (fun hz => hZ b hz cs f hb)).trans hb
theorem KpM.blk {W W' : World} (h : KpM W W') {b : Nat} {cs : Array Value} (hb : Blk W b 91 cs) : Blk W' b 91 cs := h _ _ _ hb
set_option maxRecDepth 100000 in
set_option maxHeartbeats 400000 in
theorem pieces_in (F : Fence) (n' : Nat) (h8 : F.fn 27) (hro : F.round = none) (m : Mp) (w : World) :
    CallsIn F n' Tryz.prog 27 #[.agg m.cells] w fun e w' => e = .returned (.func (.func 62) #[] #[.pointer (some ⟨w.heap.size, 0, none⟩)]) ∧ w' = w.alloc (.cells m.cells 91) := by
  refine callsIn_of_wp Tryz.func27 rfl h8 ?_ hro
  simp only [Tryz.ntmps27, List.size_toArray, List.length_cons, List.length_nil, Nat.reduceAdd, Nat.reduceSub, Array.replicate_succ, Array.replicate_zero, List.push_toArray, List.append_toArray, List.nil_append, List.cons_append]
  gi_wp2
  go_ret
  exact ⟨rfl, rfl⟩
set_option maxRecDepth 100000 in
set_option maxHeartbeats 4000000 in
theorem pieces1_in (n' ly bb : Nat) (hn' : 1 ≤ n') (m : Mp) (n : Nat) (hmn : m.size = 4096 * n) (hn5 : n < 512) (hi : m.ipa + m.size ≤ 1099511627776) (hp : m.pa + m.size ≤ 1099511627776) (Jv Jx : List (Pc m n) → World → Prop) (w1 : World) (hAb : AbidesFrom w1.heap.size Jv)
    (hM : ∀ s A B r, Jv s A → A.grownBy B (some r) → r = bb → Jv s B)
    (hY : ∀ pre x W, Jv pre W → pre.length < 512 → x.1 = pcM m pre.length → YieldAt Fence.wide (n' - 1) Tryz.prog ly (pcE x) W fun e W' =>
      (e = .returned (.bool true) ∧ Jv (pre ++ [x]) W' ∧ KpM W W') ∨ (e = .returned (.bool false) ∧ Jx (pre ++ [x]) W'))
    (hB1 : Blk w1 bb 91 m.cells) (h0 : Jv [] w1) :
    CallsIn Fence.wide n' Tryz.prog 62 #[.func (.yield ly) #[] #[], .pointer (some ⟨bb, 0, none⟩)] w1 fun e W' => (∃ v, e = .returned v) ∧
      ((∃ ys, vals ys = upto (pcM m) n ∧ Jv ys W') ∨ (∃ pre, True ∧ Jx pre W')) := by
  have hlb := hB1.lt
  refine callsIn_of_wp Tryz.func62 rfl trivial ?_ rfl
  simp only [Tryz.ntmps62, List.size_toArray, List.length_cons, List.length_nil, Nat.reduceAdd, Nat.reduceSub, Array.replicate_succ, Array.replicate_zero, List.push_toArray, List.append_toArray, List.nil_append, List.cons_append]
  gi_wp2_with fail
  gi_loopw [] (fun wr => ∃ k : Nat, k ≤ n ∧ (∃ pre, vals pre = upto (pcM m) k ∧ Jv pre wr) ∧ Blk wr bb 91 (cutM m k).cells ∧ w1.heap.size ≤ wr.heap.size) (fun wr => n - (m.size - (intOf ((wr.cell? ⟨bb, 2, none⟩).getD undef)).toNat) / 4096)
  case atStart => exact ⟨0, Nat.zero_le _, ⟨[], rfl, h0⟩, by simpa [cutM] using hB1, Nat.le_refl _⟩
  case round =>
    obtain ⟨k, hk, ⟨pre, hpre, hJ⟩, hB, hsz⟩ := hrel
    by_cases hlt : k < n
    · obtain ⟨x, hx⟩ : ∃ x, x = m.ipa + 4096 * k := ⟨_, rfl⟩
      obtain ⟨y, hy⟩ : ∃ y, y = m.pa + 4096 * k := ⟨_, rfl⟩
      obtain ⟨z, hz⟩ : ∃ z, z = m.size - 4096 * k := ⟨_, rfl⟩
      have hcut : cutM m k = ⟨x, y, z⟩ := by rw [hx, hy, hz]; rfl
      have hz4 : 4096 ≤ z ∧ z ≤ 2093056 := by omega
      have hpc : pcM m k = ⟨x, y, 4096⟩ := by rw [hx, hy]; rfl
      have hcut2 : cutM m (k + 1) = ⟨x + 4096, y + 4096, z - 4096⟩ := by rw [hx, hy, hz]; simp only [cutM, Mp.mk.injEq]; omega
      obtain ⟨yy, hyy1⟩ : ∃ yy : Pc m n, yy.1 = ⟨x, y, 4096⟩ := ⟨⟨_, k, hlt, hpc.symm⟩, rfl⟩
      have hus : vals (pre ++ [yy]) = upto (pcM m) (k + 1) := by rw [vals_snoc, hyy1, upto_succ, hpc, hpre]
      have hpl : pre.length = k := by rw [← vals_length, hpre, upto_length]
      have hyk : yy.1 = pcM m pre.length := by rw [hyy1, hpl, hpc]
      have hxy : x < 1099511627776 ∧ y < 1099511627776 := by omega
      have hlv := level_any ⟨x, y, z⟩ (by simp only; omega) (by simp only; omega) (by simp only; omega)
      have hds : ∀ W, Calls Tryz.prog 29 #[.int .i64 3] W fun e w' => e = .returned (.int .u64 4096) ∧ w' = W := dsize_any 3 (by omega)
      rw [hcut] at hB
      simp only [Mp.cells] at hB hlv
      have HX := Lib.hid (show x = m.ipa + 4096 * k ∧ y = m.pa + 4096 * k ∧ z = m.size - 4096 * k from ⟨hx, hy, hz⟩)
      have HC2 := Lib.hid hcut2
      have HUS := Lib.hid hus
      clear hx hy hz hcut hcut2 hpc hus hpre
      have c0 : wr.cell? ⟨bb, 0, none⟩ = some (.int .u64 (x : Int)) := (hB.cell 0).trans rfl
      have c1 : wr.cell? ⟨bb, 1, none⟩ = some (.int .u64 (y : Int)) := (hB.cell 1).trans rfl
      have c2 : wr.cell? ⟨bb, 2, none⟩ = some (.int .u64 (z : Int)) := (hB.cell 2).trans rfl
      have c3 : wr.cell? ⟨bb, 3, none⟩ = some (.int .i64 3) := (hB.cell 3).trans rfl
      have c4 : wr.cell? ⟨bb, 4, none⟩ = some (.int .i64 0) := (hB.cell 4).trans rfl
      have hd0 : decide ((0 : Int) < (z : Int)) = true := by simp; omega
      have HCZ := Lib.hid c2
      gi_wp2_with fail
      refine ⟨trivial, ((callsIn_wide (n := n' - 1)).2 (hlv _)).mono ?_⟩
      rintro e w2 ⟨rfl, hB2⟩
      have k2 := hB.below hB2 hB.lt
      have c0 : w2.cell? ⟨bb, 0, none⟩ = some (.int .u64 (x : Int)) := (k2.cell 0).trans rfl
      have c1 : w2.cell? ⟨bb, 1, none⟩ = some (.int .u64 (y : Int)) := (k2.cell 1).trans rfl
      have c2 : w2.cell? ⟨bb, 2, none⟩ = some (.int .u64 (z : Int)) := (k2.cell 2).trans rfl
      have c3 : w2.cell? ⟨bb, 3, none⟩ = some (.int .i64 3) := (k2.cell 3).trans rfl
      have c4 : w2.cell? ⟨bb, 4, none⟩ = some (.int .i64 0) := (k2.cell 4).trans rfl
      gi_wp2_with fail
      refine ⟨trivial, ((callsIn_wide (n := n' - 1)).2 (hds _)).mono ?_⟩
      rintro e w3 ⟨rfl, rfl⟩
      have Ew : Ext wr (w2.alloc (.cells #[.int .u64 (x : Int), .int .u64 (y : Int), .int .u64 4096, .int .i64 3, .int .i64 0] 91)) := (Chg.of_below (Z := fun _ => False) hB2 (fun b h1 h2 => absurd h2 (by omega))).ext.trans ((Ext.refl w2).alloc _)
      have hJ2 := hAb _ _ _ none hJ ⟨Ew.os, Ew.tape, Ew.output, Ew.size, fun k hk _ => Ew.block k hk⟩ (fun r e => by cases e)
      have hyy := hY _ yy _ hJ2 (by omega) hyk
      have kb := hB.ext Ew
      have kp := Blk.new w2 91 #[.int .u64 (x : Int), .int .u64 (y : Int), .int .u64 4096, .int .i64 3, .int .i64 0]
      obtain ⟨pb, hpbe⟩ : ∃ pb, pb = w2.heap.size := ⟨_, rfl⟩
      have hws : w1.heap.size ≤ w2.heap.size := Nat.le_trans hsz hB2.size
      have hpb : ¬ pb = bb := by omega
      have hEs := Ew.size
      obtain ⟨fn, tmps, assign, body, hy, hR3⟩ := hyy
      have e4 : ((4096 : Nat) : Int) = 4096 := rfl
      simp only [pcE, pcEncs, hyy1, Mp.cells, e4] at hy hR3
      clear e4
      clear hJ hJ2 hB hB2 k2 hlv hds
      gi_wp2_with fail
      refine hR3.mono ?_
      rintro e W3 (⟨rfl, hJ3, hk3⟩ | ⟨rfl, hJx3⟩)
      · have p3 := hk3.blk (by rw [← hpbe] at kp; exact kp)
        have k3 := hk3.blk kb
        have hs3 : pb < W3.heap.size := p3.lt
        have hs4 : w1.heap.size ≤ pb := by omega
        have hw1 : IntKind.u64.wrap ((x : Int) + 4096) = ((x + 4096 : Nat) : Int) := by rw [IntWalk.u64_in _ (by omega)]; omega
        have hw2 : IntKind.u64.wrap ((y : Int) + 4096) = ((y + 4096 : Nat) : Int) := by rw [IntWalk.u64_in _ (by omega)]; omega
        have hw3 : IntKind.u64.wrap ((z : Int) - 4096) = ((z - 4096 : Nat) : Int) := by rw [IntWalk.u64_in _ (by omega)]; omega
        rw [← hpbe]
        clear hpbe kp kb Ew c0 c1 c2 c3 c4 hk3 hY
        gi_wp2_with fail
        refine Flow.wpIn_region_flow Plain.wide (by kernel_rfl) (0) [(16, fun b => b = bb), (18, fun b => b = bb), (20, fun b => b = bb)] [(1, fun W => Blk W bb 91 #[.int .u64 ((x : Nat) : Int), .int .u64 ((y : Nat) : Int), .int .u64 ((z : Nat) : Int), .int .i64 3, .int .i64 0]), (3, fun W => Blk W pb 91 #[.int .u64 (x : Int), .int .u64 (y : Int), .int .u64 4096, .int .i64 3, .int .i64 0]), (6, fun W => Blk W bb 91 #[.int .u64 ((x : Nat) : Int), .int .u64 ((y : Nat) : Int), .int .u64 ((z : Nat) : Int), .int .i64 3, .int .i64 0]), (8, fun W => Blk W pb 91 #[.int .u64 (x : Int), .int .u64 (y : Int), .int .u64 4096, .int .i64 3, .int .i64 0]), (11, fun W => Blk W bb 91 #[.int .u64 ((x : Nat) : Int), .int .u64 ((y : Nat) : Int), .int .u64 ((z : Nat) : Int), .int .i64 3, .int .i64 0]), (13, fun W => Blk W pb 91 #[.int .u64 (x : Int), .int .u64 (y : Int), .int .u64 4096, .int .i64 3, .int .i64 0]), (16, fun W => Blk W bb 91 #[.int .u64 ((x : Nat) : Int), .int .u64 ((y : Nat) : Int), .int .u64 ((z : Nat) : Int), .int .i64 3, .int .i64 0]), (21, fun W => Chg (fun b => b = bb) W3 W)] (by kernel_rfl) (by kernel_rfl) (Nat.zero_le _) (Flow.nz_cons (fun b _ => Nat.zero_le _) (Flow.nz_cons (fun b _ => Nat.zero_le _) (Flow.nz_cons (fun b _ => Nat.zero_le _) Flow.nz_nil))) (Flow.facts_cons (k3.drew) (Flow.kept_blk id) (Flow.fz_cons (Flow.no_follow (by kernel_rfl)) (Flow.fz_cons (Flow.no_follow (by kernel_rfl)) (Flow.fz_cons (Flow.no_follow (by kernel_rfl)) Flow.fz_nil))) (Flow.facts_cons (p3.drew) (Flow.kept_blk id) (Flow.fz_cons (Flow.no_follow (by kernel_rfl)) (Flow.fz_cons (Flow.no_follow (by kernel_rfl)) (Flow.fz_cons (Flow.no_follow (by kernel_rfl)) Flow.fz_nil))) (Flow.facts_cons (k3.drew) (Flow.kept_blk id) (Flow.fz_cons (Flow.no_follow (by kernel_rfl)) (Flow.fz_cons (Flow.no_follow (by kernel_rfl)) (Flow.fz_cons (Flow.no_follow (by kernel_rfl)) Flow.fz_nil))) (Flow.facts_cons (p3.drew) (Flow.kept_blk id) (Flow.fz_cons (fun _ => Flow.kept_blk hpb) (Flow.fz_cons (Flow.no_follow (by kernel_rfl)) (Flow.fz_cons (Flow.no_follow (by kernel_rfl)) Flow.fz_nil))) (Flow.facts_cons (k3.drew) (Flow.kept_blk id) (Flow.fz_cons (Flow.no_follow (by kernel_rfl)) (Flow.fz_cons (Flow.no_follow (by kernel_rfl)) (Flow.fz_cons (Flow.no_follow (by kernel_rfl)) Flow.fz_nil))) (Flow.facts_cons (p3.drew) (Flow.kept_blk id) (Flow.fz_cons (fun _ => Flow.kept_blk hpb) (Flow.fz_cons (fun _ => Flow.kept_blk hpb) (Flow.fz_cons (Flow.no_follow (by kernel_rfl)) Flow.fz_nil))) (Flow.facts_cons (k3.drew) (Flow.kept_blk id) (Flow.fz_cons (Flow.no_follow (by kernel_rfl)) (Flow.fz_cons (Flow.no_follow (by kernel_rfl)) (Flow.fz_cons (Flow.no_follow (by kernel_rfl)) Flow.fz_nil))) (Flow.facts_cons ((Chg.refl _ _).drew) (fun _ _ c h => h.trans (c.mono (fun _ h => h.elim))) (Flow.fz_cons (fun _ => fun _ _ c h => h.trans c) (Flow.fz_cons (fun _ => fun _ _ c h => h.trans c) (Flow.fz_cons (fun _ => fun _ _ c h => h.trans c) Flow.fz_nil))) Flow.facts_nil)))))))) ?_
        refine Flow.pass_val (.pointer (some ⟨bb, 0, none⟩)) (Flow.met_none rfl) (fun a W hH => ?_) ?_
        · have e0 := Flow.see_old 1 hH.sees (by kernel_rfl) (by kernel_rfl) rfl
          go_simp; first | done | rfl
        refine Flow.pass_val (.int .u64 (x : Int)) (Flow.met_none rfl) (fun a W hH => ?_) ?_
        · have e0 := Flow.see_new 19 0 hH.sees (by kernel_rfl) (by kernel_rfl) rfl rfl
          have fa0 : (fun W => Blk W bb 91 #[.int .u64 ((x : Nat) : Int), .int .u64 ((y : Nat) : Int), .int .u64 ((z : Nat) : Int), .int .i64 3, .int .i64 0]) W := hH.fact _ (List.mem_of_getElem? (i := 0) rfl) rfl
          have cc : World.cell? W ⟨bb, 0, none⟩ = some (.int .u64 (x : Int)) := (fa0.cell 0).trans rfl; go_simp; first | done | rfl
        refine Flow.pass_val (.pointer (some ⟨pb, 2, none⟩)) (Flow.met_none rfl) (fun a W hH => ?_) ?_
        · have e0 := Flow.see_old 4 hH.sees (by kernel_rfl) (by kernel_rfl) rfl
          go_simp; first | done | rfl
        refine Flow.pass_val (.int .u64 4096) (Flow.met_none rfl) (fun a W hH => ?_) ?_
        · have e0 := Flow.see_new 21 2 hH.sees (by kernel_rfl) (by kernel_rfl) rfl rfl
          have fa1 : (fun W => Blk W pb 91 #[.int .u64 (x : Int), .int .u64 (y : Int), .int .u64 4096, .int .i64 3, .int .i64 0]) W := hH.fact _ (List.mem_of_getElem? (i := 1) rfl) rfl
          have cc : World.cell? W ⟨pb, 2, none⟩ = some (.int .u64 4096) := (fa1.cell 2).trans rfl; go_simp; first | done | rfl
        refine Flow.pass_val (.int .u64 ((x + 4096 : Nat) : Int)) (Flow.met_none rfl) (fun a W hH => ?_) ?_
        · have e0 := Flow.see_new 20 1 hH.sees (by kernel_rfl) (by kernel_rfl) rfl rfl
          have e1 := Flow.see_new 22 3 hH.sees (by kernel_rfl) (by kernel_rfl) rfl rfl
          go_simp; first | done | rfl | (rw [hw1]; done) | exact hw1
        refine Flow.pass_val (.pointer (some ⟨bb, 1, none⟩)) (Flow.met_none rfl) (fun a W hH => ?_) ?_
        · have e0 := Flow.see_old 1 hH.sees (by kernel_rfl) (by kernel_rfl) rfl
          go_simp; first | done | rfl
        refine Flow.pass_val (.int .u64 (y : Int)) (Flow.met_none rfl) (fun a W hH => ?_) ?_
        · have e0 := Flow.see_new 24 5 hH.sees (by kernel_rfl) (by kernel_rfl) rfl rfl
          have fa2 : (fun W => Blk W bb 91 #[.int .u64 ((x : Nat) : Int), .int .u64 ((y : Nat) : Int), .int .u64 ((z : Nat) : Int), .int .i64 3, .int .i64 0]) W := hH.fact _ (List.mem_of_getElem? (i := 2) rfl) rfl
          have cc : World.cell? W ⟨bb, 1, none⟩ = some (.int .u64 (y : Int)) := (fa2.cell 1).trans rfl; go_simp; first | done | rfl
        refine Flow.pass_val (.pointer (some ⟨pb, 2, none⟩)) (Flow.met_none rfl) (fun a W hH => ?_) ?_
        · have e0 := Flow.see_old 4 hH.sees (by kernel_rfl) (by kernel_rfl) rfl
          go_simp; first | done | rfl
        refine Flow.pass_val (.int .u64 4096) (Flow.met_none rfl) (fun a W hH => ?_) ?_
        · have e0 := Flow.see_new 26 7 hH.sees (by kernel_rfl) (by kernel_rfl) rfl rfl
          have fa3 : (fun W => Blk W pb 91 #[.int .u64 (x : Int), .int .u64 (y : Int), .int .u64 4096, .int .i64 3, .int .i64 0]) W := hH.fact _ (List.mem_of_getElem? (i := 3) rfl) rfl
          have cc : World.cell? W ⟨pb, 2, none⟩ = some (.int .u64 4096) := (fa3.cell 2).trans rfl; go_simp; first | done | rfl
        refine Flow.pass_val (.int .u64 ((y + 4096 : Nat) : Int)) (Flow.met_none rfl) (fun a W hH => ?_) ?_
        · have e0 := Flow.see_new 25 6 hH.sees (by kernel_rfl) (by kernel_rfl) rfl rfl
          have e1 := Flow.see_new 27 8 hH.sees (by kernel_rfl) (by kernel_rfl) rfl rfl
          go_simp; first | done | rfl | (rw [hw2]; done) | exact hw2
        refine Flow.pass_val (.pointer (some ⟨bb, 2, none⟩)) (Flow.met_none rfl) (fun a W hH => ?_) ?_
        · have e0 := Flow.see_old 1 hH.sees (by kernel_rfl) (by kernel_rfl) rfl
          go_simp; first | done | rfl
        refine Flow.pass_val (.int .u64 (z : Int)) (Flow.met_none rfl) (fun a W hH => ?_) ?_
        · have e0 := Flow.see_new 29 10 hH.sees (by kernel_rfl) (by kernel_rfl) rfl rfl
          have fa4 : (fun W => Blk W bb 91 #[.int .u64 ((x : Nat) : Int), .int .u64 ((y : Nat) : Int), .int .u64 ((z : Nat) : Int), .int .i64 3, .int .i64 0]) W := hH.fact _ (List.mem_of_getElem? (i := 4) rfl) rfl
          have cc : World.cell? W ⟨bb, 2, none⟩ = some (.int .u64 (z : Int)) := (fa4.cell 2).trans rfl; go_simp; first | done | rfl
        refine Flow.pass_val (.pointer (some ⟨pb, 2, none⟩)) (Flow.met_none rfl) (fun a W hH => ?_) ?_
        · have e0 := Flow.see_old 4 hH.sees (by kernel_rfl) (by kernel_rfl) rfl
          go_simp; first | done | rfl
        refine Flow.pass_val (.int .u64 4096) (Flow.met_none rfl) (fun a W hH => ?_) ?_
        · have e0 := Flow.see_new 31 12 hH.sees (by kernel_rfl) (by kernel_rfl) rfl rfl
          have fa5 : (fun W => Blk W pb 91 #[.int .u64 (x : Int), .int .u64 (y : Int), .int .u64 4096, .int .i64 3, .int .i64 0]) W := hH.fact _ (List.mem_of_getElem? (i := 5) rfl) rfl
          have cc : World.cell? W ⟨pb, 2, none⟩ = some (.int .u64 4096) := (fa5.cell 2).trans rfl; go_simp; first | done | rfl
        refine Flow.pass_val (.int .u64 ((z - 4096 : Nat) : Int)) (Flow.met_none rfl) (fun a W hH => ?_) ?_
        · have e0 := Flow.see_new 30 11 hH.sees (by kernel_rfl) (by kernel_rfl) rfl rfl
          have e1 := Flow.see_new 32 13 hH.sees (by kernel_rfl) (by kernel_rfl) rfl rfl
          go_simp; first | done | rfl | (rw [hw3]; done) | exact hw3
        refine Flow.pass_val (.pointer (some ⟨bb, 0, none⟩)) (Flow.met_none rfl) (fun a W hH => ?_) ?_
        · have e0 := Flow.see_old 1 hH.sees (by kernel_rfl) (by kernel_rfl) rfl
          go_simp; first | done | rfl
        refine Flow.pass_lin [18, 20] (fun _ W => Blk W bb 91 #[.int .u64 ((x + 4096 : Nat) : Int), .int .u64 ((y : Nat) : Int), .int .u64 ((z : Nat) : Int), .int .i64 3, .int .i64 0]) (Flow.kept_lin [18, 20] (fun _ _ _ c h => h.chg c id) (Flow.lz_cons (Flow.no_follow (by kernel_rfl)) (Flow.lz_cons (fun _ => .inl rfl) (Flow.lz_cons (fun _ => .inl rfl) Flow.lz_nil)))) (Flow.met_none rfl) (fun a W hH => ?_) ?_
        · have e0 := Flow.see_new 34 15 hH.sees (by kernel_rfl) (by kernel_rfl) rfl rfl
          have e1 := Flow.see_new 23 4 hH.sees (by kernel_rfl) (by kernel_rfl) rfl rfl
          have fa6 : (fun W => Blk W bb 91 #[.int .u64 ((x : Nat) : Int), .int .u64 ((y : Nat) : Int), .int .u64 ((z : Nat) : Int), .int .i64 3, .int .i64 0]) W := hH.fact _ (List.mem_of_getElem? (i := 6) rfl) rfl
          refine wp_skip (reg_storeIntG rfl (by kernel_rfl) fa6 e0 e1 (by show 0 < 5; omega)) ?_
          exact ⟨_, rfl, Chg.grown (s_grown _ _ _ _) (by rintro j h; cases h; rfl), fa6.set_ 0 _⟩
        refine Flow.pass_val (.pointer (some ⟨bb, 1, none⟩)) (Flow.met_none rfl) (fun a W hH => ?_) ?_
        · have e0 := Flow.see_old 1 hH.sees (by kernel_rfl) (by kernel_rfl) rfl
          go_simp; first | done | rfl
        refine Flow.pass_lin [20] (fun _ W => Blk W bb 91 #[.int .u64 ((x + 4096 : Nat) : Int), .int .u64 ((y + 4096 : Nat) : Int), .int .u64 ((z : Nat) : Int), .int .i64 3, .int .i64 0]) (Flow.kept_lin [20] (fun _ _ _ c h => h.chg c id) (Flow.lz_cons (Flow.no_follow (by kernel_rfl)) (Flow.lz_cons (Flow.no_follow (by kernel_rfl)) (Flow.lz_cons (fun _ => .inl rfl) Flow.lz_nil)))) (Flow.met_none rfl) (fun a W hH => ?_) ?_
        · have e0 := Flow.see_new 35 17 hH.sees (by kernel_rfl) (by kernel_rfl) rfl rfl
          have e1 := Flow.see_new 28 9 hH.sees (by kernel_rfl) (by kernel_rfl) rfl rfl
          obtain ⟨_, hP⟩ := Flow.past_lin 16 hH.past (by kernel_rfl) (by kernel_rfl) rfl (by kernel_rfl)
          refine wp_skip (reg_storeIntG rfl (by kernel_rfl) hP e0 e1 (by show 1 < 5; omega)) ?_
          exact ⟨_, rfl, Chg.grown (s_grown _ _ _ _) (by rintro j h; cases h; rfl), hP.set_ 1 _⟩
        refine Flow.pass_val (.pointer (some ⟨bb, 2, none⟩)) (Flow.met_none rfl) (fun a W hH => ?_) ?_
        · have e0 := Flow.see_old 1 hH.sees (by kernel_rfl) (by kernel_rfl) rfl
          go_simp; first | done | rfl
        refine Flow.pass_gen (fun _ W => Blk W bb 91 #[.int .u64 ((x + 4096 : Nat) : Int), .int .u64 ((y + 4096 : Nat) : Int), .int .u64 ((z - 4096 : Nat) : Int), .int .i64 3, .int .i64 0]) (Flow.kept_of (fun _ _ _ c h => h.chg c id) (Flow.kz_cons (Flow.no_follow (by kernel_rfl)) (Flow.kz_cons (Flow.no_follow (by kernel_rfl)) (Flow.kz_cons (Flow.no_follow (by kernel_rfl)) Flow.kz_nil)))) (Flow.met_none rfl) (fun a W hH => ?_) ?_
        · have e0 := Flow.see_new 36 19 hH.sees (by kernel_rfl) (by kernel_rfl) rfl rfl
          have e1 := Flow.see_new 33 14 hH.sees (by kernel_rfl) (by kernel_rfl) rfl rfl
          obtain ⟨_, hP⟩ := Flow.past_lin 18 hH.past (by kernel_rfl) (by kernel_rfl) rfl (by kernel_rfl)
          refine wp_skip (reg_storeIntG rfl (by kernel_rfl) hP e0 e1 (by show 2 < 5; omega)) ?_
          exact ⟨_, rfl, Chg.grown (s_grown _ _ _ _) (by rintro j h; cases h; rfl), hP.set_ 2 _⟩
        refine Flow.pass_end [none, none, none, none, none, none, none, none, none, none, none, none, none, none, none, none, none, none, none, some 19, some 20, some 21, some 22, some 23, some 24, some 25, some 26, some 27, some 28, some 29, some 30, some 31, some 32, some 33, some 34, some 35, some 36] (by kernel_rfl) ?_
        intro f gg w9 hB hfa hT hfg
        have F7 : (fun W => Chg (fun b => b = bb) W3 W) w9 := hfa _ (List.mem_of_getElem? (i := 7) rfl) (Nat.le_refl _)
        refine ⟨rfl, ?_⟩
        have hb9 := hT 20 _ (by kernel_rfl) rfl
        have hJ9 : Jv (pre ++ [yy]) w9 := by
          exact hM _ _ _ bb hJ3 ⟨F7.os, F7.tape, F7.output, F7.size, fun b hb hn => F7.block b hb (fun e => hn (e ▸ rfl))⟩ rfl
        have hsz9 := F7.size
        clear hT hfg hfa hB
        have hX := HX.out
        gi_wp2_with fail
        go_roundw
        case rel =>
          refine ⟨⟨k + 1, by omega, ⟨_, HUS.out, hJ9⟩, by rw [HC2.out]; exact hb9, by omega⟩, ?_⟩
          (repeat apply Exists.intro)
          rfl
        case measure =>
          have c9 : w9.cell? ⟨bb, 2, none⟩ = some (.int .u64 ((z - 4096 : Nat) : Int)) := (hb9.cell 2).trans rfl
          rw [c9]
          simp only [Option.getD_some, intOf, Int.toNat_natCast]
          omega
      · gi_wp2_with fail
        refine bodyPost_ret (results_none rfl _ _ _) rfl ?_
        exact ⟨⟨_, rfl⟩, .inr ⟨_, trivial, hJx3⟩⟩
    · obtain rfl : k = n := by omega
      have hz0 : cutM m k = ⟨m.ipa + 4096 * k, m.pa + 4096 * k, 0⟩ := by simp only [cutM, Mp.mk.injEq, true_and]; omega
      rw [hz0] at hB
      have c2 : wr.cell? ⟨bb, 2, none⟩ = some (.int .u64 0) := (hB.cell 2).trans rfl
      gi_wp2_with fail
      go_end0
      exact ⟨⟨_, rfl⟩, .inl ⟨_, hpre, hJ⟩⟩
end Go.Proofs.YtpellkblaeeopaaGreatDoor
