/-
  Walks: xmss.PutKey, portreeveref04.PutKey.
-/
import Derived.Test.YtnjfghlgknnhmaaXmssF
import Derived.Test.YtnjfghlgknnhmaaEqS
namespace Go.Proofs.Ytnjfghlgknnhmaa
open Go.RowKit

def putKey (o : Nat) (r s : List UInt8) : List UInt8 := putNum o 4 false ++ (r ++ s)
theorem run_buildBB (w : World) (A1 : Option Addr) (n1 c1 : Nat) (A2 : Option Addr) (n2 c2 : Nat) (A3 : Option Addr) (n3 c3 : Nat) :
    (Instr.buildSlice 103 3 #[(0, .slice A1 n1 c1), (1, .slice A2 n2 c2), (2, .slice A3 n3 c3)]).run Try.prog w = .ok (.slice (some ⟨w.heap.size, 0, none⟩) 3 3) (w.alloc (.cells #[.slice A1 n1 c1, .slice A2 n2 c2, .slice A3 n3 c3] 27)) := by
  go_simp
theorem key_cell0 {w : World} {g : Nat} {t : TypeId} {o : Nat} {r s : List UInt8} (h : Blk w g t (keyCells o r s).toArray) : w.cell? ⟨g, 0, none⟩ = some (.int .u32 o) := by rw [h.cell]; rfl
theorem key_root {w : World} {g : Nat} {t : TypeId} {o : Nat} {r s : List UInt8} (h : Blk w g t (keyCells o r s).toArray) (hr : r.length = 32) : Rd w w.heap.size 1 (some ⟨g, 1, none⟩) 32 (bcells r) := by
  refine ⟨by rw [bcells_length, hr], fun k v hv => ⟨_, rfl, h.lt, ?_⟩⟩
  have hk := (List.getElem?_eq_some_iff.1 hv).1
  rw [Addr.add_mid, h.cell, Nat.add_comm 1 k]
  simp only [keyCells, List.getElem?_toArray, List.getElem?_cons_succ]
  rw [List.getElem?_append_left hk]; exact hv
theorem key_seed {w : World} {g : Nat} {t : TypeId} {o : Nat} {r s : List UInt8} (h : Blk w g t (keyCells o r s).toArray) (hr : r.length = 32) (hs : s.length = 32) : Rd w w.heap.size 1 (some ⟨g, 33, none⟩) 32 (bcells s) := by
  refine ⟨by rw [bcells_length, hs], fun k v hv => ⟨_, rfl, h.lt, ?_⟩⟩
  have hk := (List.getElem?_eq_some_iff.1 hv).1
  rw [Addr.add_mid, h.cell, show 33 + k = (32 + k) + 1 by omega]
  simp only [keyCells, List.getElem?_toArray, List.getElem?_cons_succ]
  rw [List.getElem?_append_right (by rw [bcells_length]; omega), bcells_length, hr, show 32 + k - 32 = k by omega]; exact hv

set_option maxRecDepth 100000 in
set_option maxHeartbeats 2000000 in
theorem putKey_yes (o : Nat) (r s : List UInt8) (hr : r.length = 32) (hs : s.length = 32) (hk : isKind o = true) (w : World) :
    Calls Try.prog 24 #[.agg (keyCells o r s).toArray] w fun e w' => ∃ A c, e = .returned (.tuple #[.slice A 68 c, .int .i64 0]) ∧ 68 ≤ c ∧ Rd w' w'.heap.size 1 A 68 (bcells (putKey o r s)) ∧ Below w.heap.size w w' := by
  have hb := Blk.new w 41 (keyCells o r s).toArray
  have B1 : Below w.heap.size w (w.alloc (.cells (keyCells o r s).toArray 41)) := (Below.refl _ _).alloc (Nat.le_refl _) _
  have c0 := key_cell0 hb
  have hR := key_root hb hr
  have hS := key_seed hb hr hs
  have hlt := hb.lt
  have hrl := Lib.hid hr
  have hsl := Lib.hid hs
  clear hr hs
  go_enter Try.func24, Try.ntmps24
  go_wp2_with fail
  generalize w.alloc (.cells (keyCells o r s).toArray 41) = W1 at *
  refine (mHeight_any o W1).mono ?_
  rintro e w' ⟨rfl, rfl⟩
  rw [hk]
  go_wp2_with fail
  have hR := hR.drew
  have hS := hS.drew
  have hb := hb.drew
  have hc0 : Hid (∀ W, Below W1.drew.heap.size W1.drew W → W.cell? ⟨w.heap.size, 0, none⟩ = some (.int .u32 o)) := Lib.hid fun W hB => key_cell0 (hb.below hB hlt)
  clear c0
  refine Flow.wp_region_flow (W1.drew.heap.size) [] [] (by kernel_rfl) (by kernel_rfl) (Nat.le_refl _) (fun _ h => by cases h) Flow.facts_nil ?_
  apply Flow.pass_val (hm := (Flow.met_none rfl))
  · intro a W hH
    have e0 := Flow.see_old 1 hH.sees (by kernel_rfl) (by kernel_rfl) rfl
    go_simp; first | done | rfl
  refine Flow.pass_val (.int .u32 (o : Nat)) (Flow.met_none rfl) (fun a W hH => ?_) ?_
  · have e0 := Flow.see_new 14 0 hH.sees (by kernel_rfl) (by kernel_rfl) rfl rfl
    have c0 := hc0.out W hH.below; go_simp
  apply Flow.pass_build (hkept := Flow.kept_of (Flow.kept_built _ _ _) Flow.kz_nil) (hm := (Flow.met_none rfl))
  · intro a W hH
    have e0 := Flow.see_new 15 1 hH.sees (by kernel_rfl) (by kernel_rfl) rfl rfl
    go_simp; first | done | rfl | exact ⟨rfl, rfl⟩
  refine Flow.pass_step (Flow.bytesC (0 + 4 * 1) ([] ++ putAll [o] 4 false)) (Flow.kept_of (Flow.kept_bytesC _ _) Flow.kz_nil) (Flow.met_none rfl) (fun a W hH => ?_) ?_
  · obtain ⟨b0, e0, q0⟩ := Flow.see_up 16 2 hH.sees (by kernel_rfl) (by kernel_rfl) rfl rfl
    refine Reg.wp_call rfl Try.func55 rfl (by kernel_rfl) (by simp [Act.eval, e0]) (putBe32_any none 0 0 [] W (some ⟨b0, 0, none⟩) 1 1 [o] (Rd.nil _ _ _ _) (by omega) (q0.rd rfl) (by omega)) ?_
    rintro e w' ⟨A9, c9, rfl, hO, hB⟩
    exact ⟨_, rfl, _, rfl, hB, A9, c9, rfl, Flow.own_le hO, Rd.of_own hO⟩
  apply Flow.pass_val (hm := (Flow.met_none rfl))
  · intro a W hH
    have e0 := Flow.see_old 1 hH.sees (by kernel_rfl) (by kernel_rfl) rfl
    go_simp; first | done | rfl
  apply Flow.pass_val (hm := (Flow.met_none rfl))
  · intro a W hH
    have e0 := Flow.see_new 18 4 hH.sees (by kernel_rfl) (by kernel_rfl) rfl rfl
    go_simp; first | done | rfl
  apply Flow.pass_val (hm := (Flow.met_none rfl))
  · intro a W hH
    have e0 := Flow.see_old 1 hH.sees (by kernel_rfl) (by kernel_rfl) rfl
    go_simp; first | done | rfl
  apply Flow.pass_val (hm := (Flow.met_none rfl))
  · intro a W hH
    have e0 := Flow.see_new 20 6 hH.sees (by kernel_rfl) (by kernel_rfl) rfl rfl
    go_simp; first | done | rfl
  refine Flow.pass_gen (fun v W => ∃ A c b, v = .slice (some ⟨b, 0, none⟩) 3 3 ∧ Blk W b 27 #[.slice A 4 c, .slice (some ⟨w.heap.size, 1, none⟩) 32 32, .slice (some ⟨w.heap.size, 33, none⟩) 32 32] ∧ Rd W W.heap.size 1 A 4 (bcells (putNum o 4 false))) (Flow.kept_of (fun _ _ _ c ⟨A, k, b, h1, h2, h3⟩ => ⟨A, k, b, h1, h2.ext c.ext, h3.ext c.ext⟩) Flow.kz_nil) (Flow.met_none rfl) (fun a W hH => ?_) ?_
  · obtain ⟨A0, c0, e0, q0⟩ := Flow.see_up 17 3 hH.sees (by kernel_rfl) (by kernel_rfl) rfl rfl
    have e1 := Flow.see_new 19 5 hH.sees (by kernel_rfl) (by kernel_rfl) rfl rfl
    have e2 := Flow.see_new 21 7 hH.sees (by kernel_rfl) (by kernel_rfl) rfl rfl
    refine Flow.wp_run (Flow.reg_buildSlice _ rfl (by simp [Act.eval, e0, e1, e2]) (run_buildBB W A0 4 c0 (some ⟨w.heap.size, 1, none⟩) 32 32 (some ⟨w.heap.size, 33, none⟩) 32 32)) ?_
    refine ⟨_, rfl, Chg.of_ext ((Ext.refl W).alloc _), A0, c0, W.heap.size, rfl, Blk.new _ _ _, ?_⟩
    have r0 := q0.2.ext ((Ext.refl W).alloc (.cells #[.slice A0 4 c0, .slice (some ⟨w.heap.size, 1, none⟩) 32 32, .slice (some ⟨w.heap.size, 33, none⟩) 32 32] 27))
    simpa [putAll] using r0
  refine Flow.pass_step (Flow.bytesC 68 (putKey o r s)) (Flow.kept_of (Flow.kept_bytesC _ _) Flow.kz_nil) (Flow.met_none rfl) (fun a W hH => ?_) ?_
  · obtain ⟨A0, c0, b0, e0, q0⟩ := Flow.see_up 22 8 hH.sees (by kernel_rfl) (by kernel_rfl) rfl rfl
    refine Reg.wp_call rfl Try.func54 rfl (by kernel_rfl) (by simp [Act.eval, e0]) (cat_any (some ⟨b0, 0, none⟩) 3 3 [⟨A0, 4, c0, putNum o 4 false⟩, ⟨some ⟨w.heap.size, 1, none⟩, 32, 32, r⟩, ⟨some ⟨w.heap.size, 33, none⟩, 32, 32, s⟩] W (q0.1.rd rfl) (by intro b hb; simp only [List.mem_cons, List.not_mem_nil, or_false] at hb; rcases hb with rfl | rfl | rfl <;> first | exact q0.2 | exact (hR.below hH.below).more hH.below.size | exact (hS.below hH.below).more hH.below.size) (by simp [Bs.tot]) (by omega)) ?_
    rintro e w' ⟨A9, c9, rfl, hO, hB⟩
    have hO1 : w'.ownsRow W.heap.size 5 1 (.slice A9 68 c9) 68 (bcells (putKey o r s)) := by simpa [Bs.tot, Bs.all, putKey] using hO
    exact ⟨_, rfl, _, rfl, hB, A9, c9, rfl, Flow.own_le hO1, Rd.of_own hO1⟩
  refine Flow.pass_copy 23 9 (Flow.met_none rfl) (.inr rfl) (by kernel_rfl) (by kernel_rfl) rfl rfl (Flow.kept_of (Flow.kept_bytesC _ _) Flow.kz_nil) ?_
  apply Flow.pass_val (hm := (Flow.met_none rfl))
  · intro a W hH
    go_simp; first | done | rfl
  refine Flow.pass_end [none, none, some 2, some 3, none, none, none, none, none, none, none, none, none, none, some 14, some 15, some 16, some 17, some 18, some 19, some 20, some 21, some 22, some 23] (by kernel_rfl) ?_
  intro f g w9 hB hfa hT hfg
  obtain ⟨A2, c2, h2, g2⟩ := hT 10 _ (by kernel_rfl) rfl
  rw [← hfg 2 10 (by kernel_rfl)] at h2
  have h3 : f 3 = _ := (hfg 3 11 (by kernel_rfl)).trans (hT 11 _ (by kernel_rfl) rfl)
  obtain ⟨hn, hr9⟩ := g2
  simp only [Reg.sel, h2, h3]
  clear hT hfg hfa h2 h3 hc0
  go_wp2
  go_ret2
  exact ⟨A2, c2, rfl, hn, hr9, (B1.drew).trans (hB.mono B1.size)⟩

set_option maxRecDepth 100000 in
set_option maxHeartbeats 2000000 in
theorem rPutKey_yes (o : Nat) (r s : List UInt8) (ho : o < 4294967296) (hr : r.length = 32) (hs : s.length = 32) (hk : isKind o = true) (w : World) :
    Calls Try.prog 25 #[.agg (keyCells o r s).toArray] w fun e w' => ∃ A c, e = .returned (.tuple #[.slice A 68 c, .int .i64 0]) ∧ 68 ≤ c ∧ Rd w' w'.heap.size 1 A 68 (bcells (putKey o r s)) ∧ Below w.heap.size w w' := by
  have hb := Blk.new w 41 (keyCells o r s).toArray
  have B1 : Below w.heap.size w (w.alloc (.cells (keyCells o r s).toArray 41)) := (Below.refl _ _).alloc (Nat.le_refl _) _
  have c0 := key_cell0 hb
  have hR := key_root hb hr
  have hS := key_seed hb hr hs
  have hrl := Lib.hid hr
  have hsl := Lib.hid hs
  clear hr hs
  have hcv : IntKind.u64.wrap (o : Int) = (o : Int) := IntWalk.u64_in _ (by omega)
  go_enter Try.func25, Try.ntmps25
  go_wp2_with fail
  generalize w.alloc (.cells (keyCells o r s).toArray 41) = W1 at *
  refine (rHeight_any o W1).mono ?_
  rintro e w' ⟨rfl, rfl⟩
  rw [hk]
  go_wp2_with fail
  refine (rput_any none 0 0 false [] W1 o 4 (Rd.nil _ _ _ _) (by omega) (by omega)).mono ?_
  rintro e W2 ⟨A1, c1, rfl, hO, hB2⟩
  go_wp2_with fail
  have B2' : Below W1.heap.size W1 W2.drew := hB2.drew
  have hR := hR.below B2'
  have hS := hS.below B2'
  clear c0 hb
  refine Flow.wp_region_flow (W1.heap.size) [(3, fun b => W1.heap.size ≤ b), (6, fun b => W1.heap.size ≤ b)] [(3, fun W => W.ownsRow W1.heap.size 5 1 (.slice A1 (0 + 4) c1) (0 + 4) (bcells ([] ++ putNum o 4 false)))] (by kernel_rfl) (by kernel_rfl) B2'.size (Flow.nz_cons (fun _ h => h) (Flow.nz_cons (fun _ h => h) Flow.nz_nil)) (Flow.facts_cons (hO) (fun _ _ c h => own_chg h c (fun _ _ => id)) (Flow.fz_cons (Flow.no_follow (by kernel_rfl)) (Flow.fz_cons (Flow.no_follow (by kernel_rfl)) Flow.fz_nil)) Flow.facts_nil) ?_
  refine Flow.pass_old 6 (Flow.met_none rfl) (.inl rfl) (by kernel_rfl) (by kernel_rfl) rfl ?_
  apply Flow.pass_val (hm := (Flow.met_none rfl))
  · intro a W hH
    have e0 := Flow.see_old 1 hH.sees (by kernel_rfl) (by kernel_rfl) rfl
    go_simp; first | done | rfl
  apply Flow.pass_val (hm := (Flow.met_none rfl))
  · intro a W hH
    have e0 := Flow.see_new 20 1 hH.sees (by kernel_rfl) (by kernel_rfl) rfl rfl
    go_simp; first | done | rfl
  refine Flow.pass_linlist [6] (fun v W => ∃ A c, v = .slice A (0 + 4 + 32) c ∧ W.ownsRow W1.heap.size 5 1 (.slice A (0 + 4 + 32) c) ((0 + 4 + 32)) (bcells ([] ++ putNum o 4 false ++ r))) (Flow.kept_lin [6] (fun _ _ _ c ⟨A, k, h1, h2⟩ => ⟨A, k, h1, own_chg h2 c (fun _ _ => id)⟩) (Flow.lz_cons (Flow.no_follow (by kernel_rfl)) (Flow.lz_cons (fun _ => .inl rfl) Flow.lz_nil))) (Flow.met_none rfl) (fun a W hH => ?_) ?_
  · have e0 := Flow.see_new 19 0 hH.sees (by kernel_rfl) (by kernel_rfl) rfl rfl
    have e1 := Flow.see_new 21 2 hH.sees (by kernel_rfl) (by kernel_rfl) rfl rfl
    have fa0 : (fun W => W.ownsRow W1.heap.size 5 1 (.slice A1 (0 + 4) c1) (0 + 4) (bcells ([] ++ putNum o 4 false))) W := hH.fact _ (List.mem_of_getElem? (i := 0) rfl) rfl
    refine wpList_app W el8 rfl _ _ rfl W1.heap.size A1 (0 + 4) c1 _ (by simpa [Act.eval] using e0) fa0 _ (some ⟨w.heap.size, 1, none⟩) 32 32 _ (by simpa [Act.eval] using e1) (hR.below hH.below) (bcells_one r) (by omega) (by omega) (Nat.le_trans B2'.size hH.below.size) ?_
    intro A' c' W2 hO2 hg hB _
    exact Flow.qq_nil ⟨_, rfl, Chg.of_below hB (fun k hk _ => hk), A', c', rfl, by rw [bcells_append]; exact hO2⟩
  apply Flow.pass_val (hm := (Flow.met_none rfl))
  · intro a W hH
    have e0 := Flow.see_old 1 hH.sees (by kernel_rfl) (by kernel_rfl) rfl
    go_simp; first | done | rfl
  apply Flow.pass_val (hm := (Flow.met_none rfl))
  · intro a W hH
    have e0 := Flow.see_new 23 4 hH.sees (by kernel_rfl) (by kernel_rfl) rfl rfl
    go_simp; first | done | rfl
  refine Flow.pass_list (fun v W => ∃ A c, v = .slice A (0 + 4 + 32 + 32) c ∧ W.ownsRow W1.heap.size 5 1 (.slice A (0 + 4 + 32 + 32) c) ((0 + 4 + 32 + 32)) (bcells ([] ++ putNum o 4 false ++ r ++ s))) (Flow.kept_of (fun _ _ _ c ⟨A, k, h1, h2⟩ => ⟨A, k, h1, own_chg h2 c (fun _ _ => id)⟩) (Flow.kz_cons (Flow.no_follow (by kernel_rfl)) (Flow.kz_cons (Flow.no_follow (by kernel_rfl)) Flow.kz_nil))) (Flow.met_none rfl) (fun a W hH => ?_) ?_
  · obtain ⟨A0, c0, e0, q0⟩ := Flow.see_lin 22 3 hH.sees (by kernel_rfl) (by kernel_rfl) rfl rfl (by kernel_rfl)
    have e1 := Flow.see_new 24 5 hH.sees (by kernel_rfl) (by kernel_rfl) rfl rfl
    refine wpList_app W el8 rfl _ _ rfl W1.heap.size A0 (0 + 4 + 32) c0 _ (by simpa [Act.eval] using e0) q0 _ (some ⟨w.heap.size, 33, none⟩) 32 32 _ (by simpa [Act.eval] using e1) (hS.below hH.below) (bcells_one s) (by omega) (by omega) (Nat.le_trans B2'.size hH.below.size) ?_
    intro A' c' W2 hO2 hg hB _
    exact Flow.qq_nil ⟨_, rfl, Chg.of_below hB (fun k hk _ => hk), A', c', rfl, by rw [bcells_append]; exact hO2⟩
  refine Flow.pass_copy 25 6 (Flow.met_none rfl) (.inr rfl) (by kernel_rfl) (by kernel_rfl) rfl rfl (Flow.kept_of (fun _ _ _ c ⟨A, k, h1, h2⟩ => ⟨A, k, h1, own_chg h2 c (fun _ _ => id)⟩) (Flow.kz_cons (Flow.no_follow (by kernel_rfl)) (Flow.kz_cons (Flow.no_follow (by kernel_rfl)) Flow.kz_nil))) ?_
  apply Flow.pass_val (hm := (Flow.met_none rfl))
  · intro a W hH
    go_simp; first | done | rfl
  refine Flow.pass_end [none, none, some 2, some 3, none, none, none, none, none, none, none, none, none, none, none, none, none, none, none, some 19, some 20, some 21, some 22, some 23, some 24, some 25] (by kernel_rfl) ?_
  intro f g w9 hB hfa hT hfg
  obtain ⟨A2, c2, h2, g2⟩ := hT 7 _ (by kernel_rfl) rfl
  rw [← hfg 2 7 (by kernel_rfl)] at h2
  have h3 : f 3 = _ := (hfg 3 8 (by kernel_rfl)).trans (hT 8 _ (by kernel_rfl) rfl)
  simp only [Reg.sel, h2, h3]
  clear hT hfg hfa h2 h3
  go_wp2
  go_ret2
  have e1 : [] ++ putNum o 4 false ++ r ++ s = putKey o r s := by simp [putKey]
  rw [e1] at g2
  exact ⟨A2, c2, rfl, Flow.own_le g2, (Rd.of_own g2), (B1.trans ((B2'.trans hB).mono B1.size))⟩

set_option maxRecDepth 100000 in
set_option maxHeartbeats 1000000 in
theorem putKey_no (o : Nat) (r s : List UInt8) (hk : isKind o = false) (w : World) :
    Calls Try.prog 24 #[.agg (keyCells o r s).toArray] w fun e w' => e = .returned (.tuple #[.slice none 0 0, .int .i64 80]) ∧ Below w.heap.size w w' := by
  have hb := Blk.new w 41 (keyCells o r s).toArray
  have B1 : Below w.heap.size w (w.alloc (.cells (keyCells o r s).toArray 41)) := (Below.refl _ _).alloc (Nat.le_refl _) _
  have c0 := key_cell0 hb
  go_enter Try.func24, Try.ntmps24
  go_wp2_with fail
  generalize w.alloc (.cells (keyCells o r s).toArray 41) = W1 at *
  refine (mHeight_any o W1).mono ?_
  rintro e w' ⟨rfl, rfl⟩
  rw [hk]
  go_wp2
  go_ret2
  exact ⟨rfl, B1⟩
set_option maxRecDepth 100000 in
set_option maxHeartbeats 1000000 in
theorem rPutKey_no (o : Nat) (r s : List UInt8) (hk : isKind o = false) (w : World) :
    Calls Try.prog 25 #[.agg (keyCells o r s).toArray] w fun e w' => e = .returned (.tuple #[.slice none 0 0, .int .i64 80]) ∧ Below w.heap.size w w' := by
  have hb := Blk.new w 41 (keyCells o r s).toArray
  have B1 : Below w.heap.size w (w.alloc (.cells (keyCells o r s).toArray 41)) := (Below.refl _ _).alloc (Nat.le_refl _) _
  have c0 := key_cell0 hb
  go_enter Try.func25, Try.ntmps25
  go_wp2_with fail
  generalize w.alloc (.cells (keyCells o r s).toArray 41) = W1 at *
  refine (rHeight_any o W1).mono ?_
  rintro e w' ⟨rfl, rfl⟩
  rw [hk]
  go_wp2
  go_ret2
  exact ⟨rfl, B1⟩

/-- a key's bytes, and the error's number -/
def putVal (o : Nat) (r s : List UInt8) : List UInt8 := if isKind o then putKey o r s else []
def putErr (o : Nat) : Int := if isKind o then 0 else 80
/-- bytes with an error's number, in memory of the call's own -/
def BytesErr (w : World) (L : List UInt8) (x : Int) (e : Ending) (w' : World) : Prop := ∃ A c, e = .returned (.tuple #[.slice A L.length c, .int .i64 x]) ∧ L.length ≤ c ∧ Rd w' w'.heap.size 1 A L.length (bcells L) ∧ Below w.heap.size w w'
theorem putKey_length (o : Nat) (r s : List UInt8) (hr : r.length = 32) (hs : s.length = 32) : (putKey o r s).length = 68 := by simp [putKey, putNum_length, hr, hs]
theorem putKey_any (o : Nat) (r s : List UInt8) (hr : r.length = 32) (hs : s.length = 32) (w : World) :
    Calls Try.prog 24 #[.agg (keyCells o r s).toArray] w (BytesErr w (putVal o r s) (putErr o)) := by
  cases hk : isKind o with
  | false =>
    rw [putVal, putErr, hk]
    exact (putKey_no o r s hk w).mono fun e w' ⟨he, hB⟩ => ⟨none, 0, he, Nat.le_refl _, Rd.nil _ _ _ _, hB⟩
  | true =>
    rw [putVal, putErr, hk]
    refine (putKey_yes o r s hr hs hk w).mono fun e w' ⟨A, c, he, hc, hR, hB⟩ => ⟨A, c, ?_, ?_, ?_, hB⟩ <;> simp only [if_true, putKey_length o r s hr hs] <;> assumption
theorem rPutKey_any (o : Nat) (r s : List UInt8) (ho : o < 4294967296) (hr : r.length = 32) (hs : s.length = 32) (w : World) :
    Calls Try.prog 25 #[.agg (keyCells o r s).toArray] w (BytesErr w (putVal o r s) (putErr o)) := by
  cases hk : isKind o with
  | false =>
    rw [putVal, putErr, hk]
    exact (rPutKey_no o r s hk w).mono fun e w' ⟨he, hB⟩ => ⟨none, 0, he, Nat.le_refl _, Rd.nil _ _ _ _, hB⟩
  | true =>
    rw [putVal, putErr, hk]
    refine (rPutKey_yes o r s ho hr hs hk w).mono fun e w' ⟨A, c, he, hc, hR, hB⟩ => ⟨A, c, ?_, ?_, ?_, hB⟩ <;> simp only [if_true, putKey_length o r s hr hs] <;> assumption
end Go.Proofs.Ytnjfghlgknnhmaa
