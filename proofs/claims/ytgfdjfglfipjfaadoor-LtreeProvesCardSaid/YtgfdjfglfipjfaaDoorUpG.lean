/-
  Walk: ltree.up, its level in memory of its own.
-/
import Derived.Test.YtgfdjfglfipjfaaDoorBH
namespace Go.Proofs.YtgfdjfglfipjfaaDoor
open Go.RowKit Go.Shelf Sha

attribute [local go_sem] Oper.semAt_some

def UpRet (w : World) (ns : List Nd) (e : Ending) (w' : World) : Prop := ∃ A c, e = .returned (.slice A ns.length c) ∧ w'.ownsRow w.heap.size 24 32 (.slice A ns.length c) ns.length (ncells ns) ∧ Below w.heap.size w w'
theorem own_base {w : World} {b b' size n : Nat} {e : TypeId} {v : Value} {xs : List Value} (hb : b' ≤ b) (h : w.ownsRow b e size v n xs) : w.ownsRow b' e size v n xs := by
  obtain ⟨h1, h2⟩ := h
  refine ⟨h1, ?_⟩
  rcases h2 with h2 | ⟨g, cap, cur, h3, h4, h5⟩
  · exact .inl h2
  · exact .inr ⟨g, cap, cur, h3, Nat.le_trans hb h4, h5⟩
theorem upRet_own {w w' : World} {g0 : Nat} {A : Option Addr} {n c : Nat} {ns : List Nd} (hg : w.heap.size ≤ g0) (hn : n = ns.length) (ho : w'.ownsRow g0 24 32 (.slice A n c) n (ncells ns)) (h : Below w.heap.size w w') :
    UpRet w ns (.returned (.slice A n c)) w' := by
  subst hn
  exact ⟨A, c, rfl, own_base hg ho, h⟩

set_option maxRecDepth 100000 in
set_option maxHeartbeats 4000000 in
theorem up_own (K : FuncId) (fn : Func) (cd : Code) (hf : Tryd.prog.funcs[K]? = some fn) (hb : fn.body = some cd) (hname : (fn.name == "runtime.NumGoroutine") = false) (caps : Array Value) (join : Nat → Nd → Nd → Nd) (hj : ∀ i a b, (join i a b).length = 32)
    (A0 : Option Addr) (N cc0 : Nat) (ns : List Nd) (h32 : All32 ns) (hN : N = ns.length) (h1 : 1 ≤ N) (h1000 : N ≤ 1000) (hcc : N ≤ cc0) (w : World) (hR : Rd w w.heap.size 32 A0 N (ncells ns))
    (hcall : ∀ (x : Pr) W, Below w.heap.size w W → Calls Tryd.prog K (prEncs x ++ caps) W fun e w' => e = .returned (.agg (bcells (join x.1.1 x.1.2.1 x.1.2.2)).toArray) ∧ Below W.heap.size W w') :
    Calls Tryd.prog 28 #[.slice A0 N cc0, .func (.func K) #[] caps] w (UpRet w (upL join ns)) := by
  obtain ⟨ab, ao, rfl, hab, hrg⟩ := hR.range (by omega)
  have Hf := Lib.hid hf
  have Hb := Lib.hid hb
  have Hname := Lib.hid hname
  have Hcall := Lib.hid hcall
  have H32 := Lib.hid h32
  have HN := Lib.hid hN
  clear hf hb hname hcall h32 hN
  have hdiv : (N : Int).tdiv 2 = ((N / 2 : Nat) : Int) := by rw [Int.tdiv_eq_ediv_of_nonneg (by omega)]; omega
  obtain ⟨C, hC⟩ : ∃ C, C = N / 2 + 1 := ⟨_, rfl⟩
  have hadd : IntKind.i64.wrap (((N / 2 : Nat) : Int) + 1) = (C : Int) := by rw [IntKind.wrap_i64]; omega
  refine (callsIn_wide (n := 6)).1 ?_
  refine callsIn_of_wp_marks Tryd.func28 rfl trivial ?_ rfl
  simp only [Tryd.ntmps28, List.size_toArray, List.length_cons, List.length_nil, Nat.reduceAdd, Nat.reduceSub, Array.replicate_succ, Array.replicate_zero, List.push_toArray, List.append_toArray, List.nil_append, List.cons_append]
  gi_wp2_with ((with_reducible refine atIn_makeSlice 22 ?_); refine wpListIn_makeN _ elNz rfl _ _ rfl .i64 .i64 0 ((N : Int) / 2 + 1) 0 C rfl rfl rfl (by omega) (by omega) (by omega) (by omega) ?_; intro w1 hb1 hs1 hB1)
  refine ⟨trivial, (pairs_in Fence.wide 5 trivial rfl _ rfl (some ⟨ab, ao, none⟩) N cc0 rfl _).mono ?_⟩
  rintro e w' ⟨rfl, rfl⟩
  gi_wp2_with fail
  obtain ⟨jn, hjn⟩ : ∃ jn : Pr → Nd, jn = fun x => join x.1.1 x.1.2.1 x.1.2.2 := ⟨_, rfl⟩
  have hjl : ∀ x, (jn x).length = 32 := fun x => by rw [hjn]; exact hj _ _ _
  have Hcall : Hid (∀ (x : Pr) W, Below w.heap.size w W → Calls Tryd.prog K (prEncs x ++ caps) W fun e w' => e = .returned (.agg (bcells (jn x)).toArray) ∧ Below W.heap.size W w') := Lib.hid (by rw [hjn]; exact Hcall.out)
  have HJ := Lib.hid hjn
  subst hC
  clear hjn hadd
  have hs1' : w1.heap.size = w.heap.size + 2 := by rw [hs1]; simp
  have hsW : (w.alloc (.cells #[.func (.func K) #[] caps] 62)).heap.size = w.heap.size + 1 := by simp
  rw [hsW] at hb1 hB1
  obtain ⟨W2, hW2⟩ : ∃ W2, W2 = (w1.alloc (.cells #[.slice (some ⟨w.heap.size + 1, 0, none⟩) 0 (N / 2 + 1)] 22)).alloc (.cells #[.slice (some ⟨ab, ao, none⟩) N cc0] 22) := ⟨_, rfl⟩
  have hs2 : W2.heap.size = w.heap.size + 4 := by rw [hW2]; simp [hs1']
  have B1 : Below w.heap.size w w1 := ((Below.refl _ w).alloc (Nat.le_refl _) _).trans (hB1.mono (by omega))
  have hf1 : Blk w1 w.heap.size 62 #[.func (.func K) #[] caps] := (Blk.new w _ _).below hB1 (by omega)
  have hI0 : UpI w ab ao N cc0 (.func (.func K) #[] caps) jn [] W2 := by
    rw [hW2]
    refine ⟨⟨some ⟨w.heap.size + 1, 0, none⟩, N / 2 + 1, ?_, ?_⟩, (hf1.alloc _).alloc _, ?_, (B1.alloc (by omega) _).alloc (by simp; omega) _⟩
    · have := (Blk.new w1 22 #[.slice (some ⟨w.heap.size + 1, 0, none⟩) 0 (N / 2 + 1)]).alloc (.cells #[.slice (some ⟨ab, ao, none⟩) N cc0] 22)
      rw [hs1'] at this; exact this
    · have := ((hb1.alloc (.cells #[.slice (some ⟨w.heap.size + 1, 0, none⟩) 0 (N / 2 + 1)] 22)).alloc (.cells #[.slice (some ⟨ab, ao, none⟩) N cc0] 22)).own (base := w.heap.size + 1) (size := 32) (n := 0) (m := N / 2 + 1) (Nat.le_refl _) (by rw [size_madeCells]) (by omega) (by omega)
      simpa [ncells] using this
    · have := Blk.new (w1.alloc (.cells #[.slice (some ⟨w.heap.size + 1, 0, none⟩) 0 (N / 2 + 1)] 22)) 22 #[.slice (some ⟨ab, ao, none⟩) N cc0]
      rw [World.size_alloc, hs1'] at this; exact this
  have hz60 : ∀ W, (zeroValue 60).run Tryd.prog W = .ok (.agg z64) W := fun W => by kernel_rfl
  rw [← hW2]
  clear hW2 hb1 hB1 hs1 hs1' hsW B1 hf1
  have hp2 : w.heap.size ≤ W2.heap.size := by omega
  refine wpIn_rangeFunc_ownH rfl (by omega) (gf := 85) (lb := #[.pointer (some ⟨w.heap.size + 3, 0, none⟩)]) rfl trivial (enters_of Tryd.func85 (by kernel_rfl) rfl)
    (pairs_stops (w.heap.size + 3) w.heap.size ab ao cc0 ns H32.out (by have := HN.out; omega) hab W2 hp2 (hrg.later hI0.B hab) (by rw [← HN.out]; exact hI0.Bx)) (fun h k => h.trans k)
    (fun W l o o' hl h h1 h2 => ⟨World.putObj_heap_other (by omega), belowK_b (w := W2) hp2 W l o o' hl h h1 h2⟩) (Below.refl _ _) (fun _ => rfl)
    (UpI w ab ao N cc0 (.func (.func K) #[] caps) jn) (fun _ _ _ => False) (fun s W W' row hs hg hr => hs.kept hp2 hg hr) (fun _ _ _ _ _ hs _ _ => hs) hI0
    (upAx w ab ao N cc0 K caps) (fun x a' _ W W' row hs hg hr => by obtain ⟨g7, h1, h2⟩ := hs; exact ⟨g7, h1.kept hg (fun r e => (hr r e).2), h2⟩) ?assign ?body ?done ?stop
  case assign =>
    rintro l pre x W K' hI hK
    gi_wp2_with ((with_reducible refine atIn_store 60 ?_); refine wpListIn_storeAll _ rfl 60 _ _ rfl W.heap.size 60 z64 (prCells x) (Blk.new W _ _) rfl rfl (by rw [prCells_size]; rfl) (by rw [prCells_size]; exact inf60) (pr_one x) ?_; intro W3 h3 hg3 hs3)
    have hC3 : Chg (fun b => b = W.heap.size) W W3 := ((Chg.refl _ W).alloc _).trans (Chg.grown hg3 (by rintro j h; cases h; rfl))
    have hl3 := hI.Bx.lt
    refine hK _ _ (KeepsOthers.from ⟨hC3.size, fun k o hk ho => ?_⟩ _) ⟨hC3.block _ hl3 (show ¬ _ = _ by omega), hC3.below (fun b hb => by have hb : b = W.heap.size := hb; omega) (by omega)⟩ (hI.new hC3) ⟨W.heap.size, h3, rfl⟩
    have hkl := (Array.getElem?_eq_some_iff.1 hk).1
    exact (hC3.block k hkl (show ¬ _ = _ by omega)).trans hk
  case body =>
    rintro l pre x a' wr hl ⟨r, hr⟩ ⟨⟨A, c, hS, hO⟩, hF0, hBs, hBW⟩ ⟨g7, hX7, rfl⟩ hlen
    have hszr : w.heap.size ≤ wr.heap.size := hBW.size
    have hgbr : w.heap.size + 1 ≤ wr.drew.heap.size := by have := hS.lt; show w.heap.size + 1 ≤ wr.heap.size; omega
    have hob0 : ¬ (Value.slice A pre.length c).ownBlock = some w.heap.size := fun e => own_ne hO hF0 (by decide) e rfl
    have hb0g5 : ¬ w.heap.size = w.heap.size + 2 := by omega
    have hog7 : ¬ (Value.slice A pre.length c).ownBlock = some g7 := fun e => own_ne hO hX7 (by decide) e rfl
    have hg7g5 : ¬ g7 = w.heap.size + 2 := by
      rintro rfl
      have := hX7.symm.trans hS
      simp at this
    have hog5 : ¬ (Value.slice A pre.length c).ownBlock = some (w.heap.size + 2) := fun e => own_ne hO hS (by decide) e rfl
    have hoBs : ¬ (Value.slice A pre.length c).ownBlock = some (w.heap.size + 3) := fun e => own_ne hO hBs (by decide) e rfl
    have hBsg5 : ¬ w.heap.size + 3 = w.heap.size + 2 := by omega
    gi_wp2
    refine Flow.wpIn_region_flow (Plain.round l) (by kernel_rfl) (w.heap.size) [(6, fun b => (Value.slice A pre.length c).ownBlock = some b), (7, fun b => b = (w.heap.size + 2))] [(0, fun W => Blk W (w.heap.size + 2) 22 (#[.slice A pre.length c])), (1, fun W => Blk W w.heap.size 62 (#[(Value.func (.func K) #[] caps)])), (3, fun W => Blk W g7 60 ((prCells x))), (6, fun W => W.ownsRow (w.heap.size + 1) 24 32 (.slice A pre.length c) pre.length (ncells (pre.map jn))), (7, fun W => Blk W (w.heap.size + 2) 22 (#[.slice A pre.length c])), (8, fun W => Blk W w.heap.size 62 (#[(Value.func (.func K) #[] caps)])), (8, fun W => Blk W (w.heap.size + 3) 22 (#[.slice (some ⟨ab, ao, none⟩) N cc0])), (8, fun W => KeepsOthers wr W)] (by kernel_rfl) (by kernel_rfl) hszr (Flow.nz_cons (fun b hb => by have := (own_some hO hb).1; omega) (Flow.nz_cons (by rintro b rfl; omega) Flow.nz_nil)) (Flow.facts_cons (hS.drew) (Flow.kept_blk id) (Flow.fz_cons (Flow.no_follow (by kernel_rfl)) (Flow.fz_cons (Flow.no_follow (by kernel_rfl)) Flow.fz_nil)) (Flow.facts_cons (hF0.drew) (Flow.kept_blk id) (Flow.fz_cons (Flow.no_follow (by kernel_rfl)) (Flow.fz_cons (Flow.no_follow (by kernel_rfl)) Flow.fz_nil)) (Flow.facts_cons (hX7.drew) (Flow.kept_blk id) (Flow.fz_cons (Flow.no_follow (by kernel_rfl)) (Flow.fz_cons (Flow.no_follow (by kernel_rfl)) Flow.fz_nil)) (Flow.facts_cons (hO.drew) (Flow.kept_own (fun _ _ => id)) (Flow.fz_cons (Flow.no_follow (by kernel_rfl)) (Flow.fz_cons (Flow.no_follow (by kernel_rfl)) Flow.fz_nil)) (Flow.facts_cons (hS.drew) (Flow.kept_blk id) (Flow.fz_cons (fun _ => Flow.kept_blk hog5) (Flow.fz_cons (Flow.no_follow (by kernel_rfl)) Flow.fz_nil)) (Flow.facts_cons (hF0.drew) (Flow.kept_blk id) (Flow.fz_cons (fun _ => Flow.kept_blk hob0) (Flow.fz_cons (fun _ => Flow.kept_blk hb0g5) Flow.fz_nil)) (Flow.facts_cons (hBs.drew) (Flow.kept_blk id) (Flow.fz_cons (fun _ => Flow.kept_blk hoBs) (Flow.fz_cons (fun _ => Flow.kept_blk hBsg5) Flow.fz_nil)) (Flow.facts_cons (KeepsOthers.drew wr) (kept_others (fun _ _ h _ => h.elim)) (Flow.fz_cons (fun _ => kept_others (fun b o hb ho => own_cells hO hb ho)) (Flow.fz_cons (fun _ => kept_others (fun b o hb ho => blk_cells hS hb ho)) Flow.fz_nil)) Flow.facts_nil)))))))) ?_
    refine Flow.pass_val (.slice A pre.length c) (Flow.met_none rfl) (fun a W hH => ?_) ?_
    · have e0 := Flow.see_old 5 hH.sees (by kernel_rfl) (by kernel_rfl) rfl
      have fa0 : (fun W => Blk W (w.heap.size + 2) 22 (#[.slice A pre.length c])) W := hH.fact _ (List.mem_of_getElem? (i := 0) rfl) rfl
      have cf : World.cell? W ⟨(w.heap.size + 2), 0, none⟩ = some (.slice A pre.length c) := (fa0.cell 0).trans rfl; go_simp
    refine Flow.pass_val ((Value.func (.func K) #[] caps)) (Flow.met_none rfl) (fun a W hH => ?_) ?_
    · have e0 := Flow.see_old 3 hH.sees (by kernel_rfl) (by kernel_rfl) rfl
      have fa1 : (fun W => Blk W w.heap.size 62 (#[(Value.func (.func K) #[] caps)])) W := hH.fact _ (List.mem_of_getElem? (i := 1) rfl) rfl
      have cf : World.cell? W ⟨w.heap.size, 0, none⟩ = some (Value.func (.func K) #[] caps) := (fa1.cell 0).trans rfl; go_simp
    refine Flow.pass_old (X := .int .u32 (x.1.1 : Nat)) 6 (Flow.met_none rfl) (.inl rfl) (by kernel_rfl) (by kernel_rfl) rfl ?_
    refine Flow.pass_val (.agg (prCells x)) (Flow.met_none rfl) (fun a W hH => ?_) ?_
    · have e0 := Flow.see_old 7 hH.sees (by kernel_rfl) (by kernel_rfl) rfl
      have fa2 : (fun W => Blk W g7 60 ((prCells x))) W := hH.fact _ (List.mem_of_getElem? (i := 2) rfl) rfl
      exact reg_load 60 _ rfl e0 fa2 Tryd.underlying60 rfl (by rw [prCells_size]; exact inf60)
    refine Flow.pass_gen (fun v _ => v = .agg (bcells (jn x)).toArray ∧ True) (Flow.kept_of (fun _ _ _ _ h => h) (Flow.kz_cons (fun _ => fun _ _ _ _ h => h) (Flow.kz_cons (fun _ => fun _ _ _ _ h => h) Flow.kz_nil))) (Flow.met_none rfl) (fun a W hH => ?_) ?_
    · have e0 := Flow.see_new 18 1 hH.sees (by kernel_rfl) (by kernel_rfl) rfl rfl
      have e1 := Flow.see_new 19 2 hH.sees (by kernel_rfl) (by kernel_rfl) rfl rfl
      have e2 := Flow.see_new 20 3 hH.sees (by kernel_rfl) (by kernel_rfl) rfl rfl
      refine Flow.wp_callF (vals := prEncs x ++ caps) rfl e0 Hf.out Hb.out Hname.out (by simp [Act.eval, e1, e2]) (Hcall.out x W (hBW.drew.trans hH.below)) ?_
      rintro e w' ⟨rfl, hB⟩
      exact ⟨_, rfl, Chg.of_ext hB, rfl, trivial⟩
    refine Flow.pass_gen (fun v W => ∃ b, v = .slice (some ⟨b, 0, none⟩) 1 1 ∧ (wr.heap.size ≤ b ∧ Blk W b 24 (bcells (jn x)).toArray)) (Flow.kept_of (fun _ _ _ c ⟨b, h1, h2, h3⟩ => ⟨b, h1, h2, h3.chg c id⟩) (Flow.kz_cons (fun _ => fun _ _ _ c ⟨b, h1, h2, h3⟩ => ⟨b, h1, h2, h3.chg c (fun hb => by have := (own_some hO hb).2; omega)⟩) (Flow.kz_cons (fun _ => fun _ _ _ c ⟨b, h1, h2, h3⟩ => ⟨b, h1, h2, h3.chg c (fun e => by have e2 : b = w.heap.size + 2 := e; have := hS.lt; omega)⟩) Flow.kz_nil))) (Flow.met_none rfl) (fun a W hH => ?_) ?_
    · obtain ⟨e0, q0⟩ := Flow.see_up 21 4 hH.sees (by kernel_rfl) (by kernel_rfl) rfl rfl
      refine Flow.wp_run (Flow.reg_buildSlice _ rfl (by simp [Act.eval, e0]) (run_nodeS W (jn x) (hjl x))) ?_
      exact ⟨_, rfl, Chg.of_ext ((Ext.refl W).alloc _), W.heap.size, rfl, hH.below.size, Blk.new _ _ _⟩
    refine Flow.pass_list (fun v W => ∃ A1 c1, v = .slice A1 (pre.length + 1) c1 ∧ (W.ownsRow (w.heap.size + 1) 24 32 (.slice A1 (pre.length + 1) c1) (pre.length + 1) ((ncells (pre.map jn)) ++ bcells (jn x)) ∧ ∀ b, (Value.slice A1 (pre.length + 1) c1).ownBlock = some b → (Value.slice A pre.length c).ownBlock = some b ∨ wr.heap.size ≤ b)) (Flow.kept_of (fun _ _ _ c ⟨A1, c1, h1, h2, h3⟩ => ⟨A1, c1, h1, own_chg h2 c (fun _ _ => id), h3⟩) (Flow.kz_cons (Flow.no_follow (by kernel_rfl)) (Flow.kz_cons (fun _ => fun _ _ _ c ⟨A1, c1, h1, h2, h3⟩ => ⟨A1, c1, h1, own_chg h2 c (fun b hb e => by have e2 : b = w.heap.size + 2 := e; subst e2; rcases h3 _ hb with h4 | h4; exact hog5 h4; have := hS.lt; omega), h3⟩) Flow.kz_nil))) (Flow.met_none rfl) (fun a W hH => ?_) ?_
    · have e0 := Flow.see_new 17 0 hH.sees (by kernel_rfl) (by kernel_rfl) rfl rfl
      obtain ⟨b1, e1, q1⟩ := Flow.see_up 22 5 hH.sees (by kernel_rfl) (by kernel_rfl) rfl rfl
      have fa3 : (fun W => W.ownsRow (w.heap.size + 1) 24 32 (.slice A pre.length c) pre.length (ncells (pre.map jn))) W := hH.fact _ (List.mem_of_getElem? (i := 3) rfl) rfl
      refine wpList_app W elNz rfl _ _ rfl (w.heap.size + 1) A pre.length c _ (by simpa [Act.eval] using e0) fa3 W.heap.size (some ⟨b1, 0, none⟩) 1 1 (bcells (jn x)) (by simpa [Act.eval] using e1) (by have := q1.2.rd (size := 32) (n := 1) (by simp [bcells_length, hjl x]); simpa using this) (bcells_one (jn x)) (by omega) (by omega) (Nat.le_trans hgbr hH.below.size) ?_
      intro A1 c1 W2 hO2 hg hB hob
      refine Flow.qq_nil ⟨_, rfl, Chg.grown hg (fun b hb => hb), A1, c1, rfl, hO2, fun b hb => ?_⟩
      rcases hob with h4 | h4
      · left; rw [← h4]; exact hb
      · right; rw [hb] at h4; cases h4; exact hH.below.size
    refine Flow.pass_gen (fun _ W => ∃ A1 c1, Blk W (w.heap.size + 2) 22 #[.slice A1 (pre.length + 1) c1] ∧ W.ownsRow (w.heap.size + 1) 24 32 (.slice A1 (pre.length + 1) c1) (pre.length + 1) ((ncells (pre.map jn)) ++ bcells (jn x))) (Flow.kept_of (fun _ _ _ c ⟨A1, c1, h1, h2⟩ => ⟨A1, c1, h1.chg c id, own_chg h2 c (fun _ _ => id)⟩) (Flow.kz_cons (Flow.no_follow (by kernel_rfl)) (Flow.kz_cons (Flow.no_follow (by kernel_rfl)) Flow.kz_nil))) (Flow.met_none rfl) (fun a W hH => ?_) ?_
    · have e0 := Flow.see_old 5 hH.sees (by kernel_rfl) (by kernel_rfl) rfl
      obtain ⟨A11, c11, e1, q1⟩ := Flow.see_up 23 6 hH.sees (by kernel_rfl) (by kernel_rfl) rfl rfl
      have fa4 : (fun W => Blk W (w.heap.size + 2) 22 (#[.slice A pre.length c])) W := hH.fact _ (List.mem_of_getElem? (i := 4) rfl) rfl
      refine wp_skip (reg_storeSlice rfl (by kernel_rfl) fa4 e0 e1 (by simp)) ?_
      obtain ⟨hO2, hob⟩ := q1
      have hcg : Chg (fun b => b = w.heap.size + 2) W (W.setCell ⟨w.heap.size + 2, 0, none⟩ (.slice A11 (pre.length + 1) c11)) := Chg.grown (grown_setL W (w.heap.size + 2) 0 _) (by rintro k h; cases h; rfl)
      refine ⟨_, rfl, hcg, A11, c11, ?_, own_chg hO2 hcg (fun b hb e => by have e2 : b = w.heap.size + 2 := e; subst e2; rcases hob _ hb with h4 | h4; exact hog5 h4; have := hS.lt; omega)⟩
      have := fa4.set_ 0 (.slice A11 (pre.length + 1) c11)
      simpa using this
    refine Flow.pass_end [none, none, none, none, none, none, none, none, none, none, none, none, none, none, none, none, none, some 17, some 18, some 19, some 20, some 21, some 22, some 23, none, none, none, none, none, none, none, none] (by kernel_rfl) ?_
    intro f gg w9 hB hfa hT hfg
    refine ⟨rfl, ?_⟩
    obtain ⟨A9, c9, hS9, hO9⟩ := hT 7 _ (by kernel_rfl) rfl
    have F5 := hfa _ (List.mem_of_getElem? (i := 5) rfl) (Nat.le_refl _)
    have F6 := hfa _ (List.mem_of_getElem? (i := 6) rfl) (Nat.le_refl _)
    have F7 := hfa _ (List.mem_of_getElem? (i := 7) rfl) (Nat.le_refl _)
    have hB9 := hBW.drew.trans hB
    have hfin : UpI w ab ao N cc0 (.func (.func K) #[] caps) jn (pre ++ [x]) w9 := by
      refine ⟨⟨A9, c9, ?_, ?_⟩, F5, F6, hB9⟩
      · rw [List.length_append]; exact hS9
      · rw [List.length_append, List.map_append, List.map_cons, List.map_nil, ncells_snoc]; exact hO9
    have hk : KeepsFrom W2.heap.size wr w9 := KeepsOthers.from F7 _
    have hkb : KB (w.heap.size + 3) w.heap.size wr w9 := ⟨Eq.trans F6 (Eq.symm hBs), (Below.refl _ wr).drew.trans hB⟩
    clear hfa hT hfg hS9 hO9 F5 F6 F7
    exact ⟨hk, hkb, hfin⟩
  case done =>
    rintro D ys wr hD rfl ⟨⟨A, c, hS, hO⟩, _, _, hBW⟩ hK
    have hszr : w.heap.size ≤ wr.heap.size := hBW.size
    have hgbr : w.heap.size + 1 ≤ wr.drew.heap.size := by have := hS.lt; show w.heap.size + 1 ≤ wr.heap.size; omega
    have hup : Hid (ncells ((upto (prOf ns) (ns.length / 2)).map jn) ++ ncells (ns.drop (ns.length / 2 * 2)) = ncells (upL join ns)) := Lib.hid (by
      rw [← ncells_append, upL]
      congr 2
      unfold upto
      rw [List.map_map]
      apply List.map_congr_left
      intro i hi
      have hi' : i < ns.length / 2 := by simpa using hi
      have := prOf_eq H32.out (i := i) (by omega) (by have := HN.out; omega)
      simp only [Function.comp_apply, HJ.out, this])
    have hlen : Hid ((upL join ns).length = ns.length / 2 + (ns.length - ns.length / 2 * 2)) := Lib.hid (by rw [upL_length]; omega)
    have hl0 : (upto (prOf ns) (ns.length / 2)).length = ns.length / 2 := upto_length _ _
    rw [hl0] at hS hO
    have hNe := HN.out
    rw [← hNe] at hS hO hup hlen
    clear hl0 hNe
    generalize ((upto (prOf ns) (N / 2)).map jn) = ns0 at *
    obtain ⟨ns1, hns1⟩ : ∃ l, l = ns.drop (N / 2 * 2) := ⟨_, rfl⟩
    rw [← hns1] at hup
    obtain ⟨M, hM⟩ : ∃ M, M = N / 2 := ⟨_, rfl⟩
    rw [← hM] at hS hO hlen
    obtain ⟨p, hp⟩ : ∃ p, p = N / 2 * 2 := ⟨_, rfl⟩
    rw [← hp] at hns1
    have hwp : IntKind.i64.wrap ((N : Int) / 2 * 2) = (p : Int) := by rw [IntKind.wrap_i64]; omega
    have hcut := hR.cut (k := p) hcc
    rw [show (ncells ns).drop (p * 32) = ncells ns1 by
      rw [hns1]
      have e : ns = ns.take p ++ ns.drop p := (List.take_append_drop _ _).symm
      have hl : (ncells (ns.take p)).length = p * 32 := by rw [ncells_length _ (fun x hx => H32.out x (List.mem_of_mem_take hx)), List.length_take]; have := HN.out; rw [Nat.min_eq_left (by omega)]
      conv => lhs; rw [e, ncells_append]
      rw [List.drop_left' hl]] at hcut
    have hpN : p ≤ N := by omega
    have hMN : M + (N - p) ≤ 1000 := by omega
    have hlen : Hid ((upL join ns).length = M + (N - p)) := Lib.hid (by have := hlen.out; omega)
    have hwp : IntKind.i64.wrap ((M : Int) * 2) = (p : Int) := by rw [IntKind.wrap_i64]; omega
    have hdiv : (N : Int).tdiv 2 = (M : Int) := by rw [hdiv]; omega
    have hpi : (p : Int) ≤ (N : Int) := by omega
    have hdw : IntKind.i64.wrap ((N : Int) / 2) = (M : Int) := by rw [IntKind.wrap_i64]; omega
    clear hM hp hns1
    by_cases e : cc0 = p
    · rw [if_pos e] at hcut
      have hR6 := hcut.below (hBW.drew)
      gi_wp2
      refine Flow.wpIn_region_flow Plain.wide (by kernel_rfl) (w.heap.size) [(7, fun b => (Value.slice A M c).ownBlock = some b)] [(0, fun W => Blk W (w.heap.size + 2) 22 (#[.slice A M c])), (7, fun W => W.ownsRow (w.heap.size + 1) 24 32 (.slice A M c) M (ncells ns0)), (9, fun W => KeepsOthers wr W)] (by kernel_rfl) (by kernel_rfl) hszr (Flow.nz_cons (fun b hb => by have := (own_some hO hb).1; omega) Flow.nz_nil) (Flow.facts_cons (hS.drew) (Flow.kept_blk id) (Flow.fz_cons (Flow.no_follow (by kernel_rfl)) Flow.fz_nil) (Flow.facts_cons (hO.drew) (Flow.kept_own (fun _ _ => id)) (Flow.fz_cons (Flow.no_follow (by kernel_rfl)) Flow.fz_nil) (Flow.facts_cons (KeepsOthers.drew wr) (kept_others (fun _ _ h _ => h.elim)) (Flow.fz_cons (fun _ => kept_others (fun b o hb ho => own_cells hO hb ho)) Flow.fz_nil) Flow.facts_nil))) ?_
      refine Flow.pass_val (.slice A M c) (Flow.met_none rfl) (fun a W hH => ?_) ?_
      · have e0 := Flow.see_old 5 hH.sees (by kernel_rfl) (by kernel_rfl) rfl
        have fa0 : (fun W => Blk W (w.heap.size + 2) 22 (#[.slice A M c])) W := hH.fact _ (List.mem_of_getElem? (i := 0) rfl) rfl
        have cf : World.cell? W ⟨(w.heap.size + 2), 0, none⟩ = some (.slice A M c) := (fa0.cell 0).trans rfl; go_simp
      refine Flow.pass_old (X := .slice (some ⟨ab, ao, none⟩) N cc0) 0 (Flow.met_none rfl) (.inl rfl) (by kernel_rfl) (by kernel_rfl) rfl ?_
      refine Flow.pass_old (X := .slice (some ⟨ab, ao, none⟩) N cc0) 0 (Flow.met_none rfl) (.inl rfl) (by kernel_rfl) (by kernel_rfl) rfl ?_
      refine Flow.pass_val (.int .i64 (N : Int)) (Flow.met_none rfl) (fun a W hH => ?_) ?_
      · have e0 := Flow.see_new 26 2 hH.sees (by kernel_rfl) (by kernel_rfl) rfl rfl
        go_simp; first | done | rfl
      refine Flow.pass_val (.int .i64 (M : Int)) (Flow.met_none rfl) (fun a W hH => ?_) ?_
      · have e0 := Flow.see_new 27 3 hH.sees (by kernel_rfl) (by kernel_rfl) rfl rfl
        go_simp; first | done | rfl | (rw [hdw])
      refine Flow.pass_val (.int .i64 (p : Int)) (Flow.met_none rfl) (fun a W hH => ?_) ?_
      · have e0 := Flow.see_new 28 4 hH.sees (by kernel_rfl) (by kernel_rfl) rfl rfl
        go_simp; first | done | rfl | (rw [hwp]) | omega
      refine Flow.pass_val (.slice (some ⟨ab, ao, none⟩) (N - p) (cc0 - p)) (Flow.met_none rfl) (fun a W hH => ?_) ?_
      · have e0 := Flow.see_new 25 1 hH.sees (by kernel_rfl) (by kernel_rfl) rfl rfl
        have e1 := Flow.see_new 29 5 hH.sees (by kernel_rfl) (by kernel_rfl) rfl rfl
        go_simp; first | done | rfl
      refine Flow.pass_list (fun v W => ∃ A1 c1, v = .slice A1 (M + (N - p)) c1 ∧ W.ownsRow (w.heap.size + 1) 24 32 (.slice A1 (M + (N - p)) c1) (M + (N - p)) ((ncells ns0) ++ ncells ns1)) (Flow.kept_of (fun _ _ _ c ⟨A1, c1, h1, h2⟩ => ⟨A1, c1, h1, own_chg h2 c (fun _ _ => id)⟩) (Flow.kz_cons (Flow.no_follow (by kernel_rfl)) Flow.kz_nil)) (Flow.met_none rfl) (fun a W hH => ?_) ?_
      · have e0 := Flow.see_new 24 0 hH.sees (by kernel_rfl) (by kernel_rfl) rfl rfl
        have e1 := Flow.see_new 30 6 hH.sees (by kernel_rfl) (by kernel_rfl) rfl rfl
        have fa1 : (fun W => W.ownsRow (w.heap.size + 1) 24 32 (.slice A M c) M (ncells ns0)) W := hH.fact _ (List.mem_of_getElem? (i := 1) rfl) rfl
        refine wpList_app W elNz rfl _ _ rfl (w.heap.size + 1) A M c _ (by simpa [Act.eval] using e0) fa1 w.heap.size (some ⟨ab, ao, none⟩) (N - p) (cc0 - p) (ncells ns1) (by simpa [Act.eval] using e1) (hR6.below hH.below) ncells_one (by omega) (by omega) (Nat.le_trans hgbr hH.below.size) ?_
        intro A1 c1 W2 hO2 hg hB hob
        exact Flow.qq_nil ⟨_, rfl, Chg.grown hg (fun b hb => hb), A1, c1, rfl, hO2⟩
      refine Flow.pass_copy 31 7 (Flow.met_none rfl) (.inr rfl) (by kernel_rfl) (by kernel_rfl) rfl rfl (Flow.kept_of (fun _ _ _ c ⟨A1, c1, h1, h2⟩ => ⟨A1, c1, h1, own_chg h2 c (fun _ _ => id)⟩) (Flow.kz_cons (Flow.no_follow (by kernel_rfl)) Flow.kz_nil)) ?_
      refine Flow.pass_end [none, none, none, none, some 4, none, none, none, none, none, none, none, none, none, none, none, none, none, none, none, none, none, none, none, some 24, some 25, some 26, some 27, some 28, some 29, some 30, some 31] (by kernel_rfl) ?_
      intro f gg w9 hB hfa hT hfg
      obtain ⟨A14, c14, h4, g4⟩ := hT 8 _ (by kernel_rfl) rfl
      rw [← hfg 4 8 (by kernel_rfl)] at h4
      have F2 : (fun W => KeepsOthers wr W) w9 := hfa _ (List.mem_of_getElem? (i := 2) rfl) (Nat.le_refl _)
      refine ⟨rfl, ?_⟩
      have F2 := hfa _ (List.mem_of_getElem? (i := 2) rfl) (Nat.le_refl _)
      have hK9 := F2.same D _ hK rfl
      have B9 := hBW.drew.trans hB
      simp only [Reg.sel, h4]
      clear hfa hT hfg hR6 hO hS
      gi_wp2
      refine ⟨by simp, .inl ⟨_, _, rfl, run_takeDeferred hK9, ?_⟩⟩
      refine ⟨_, results_tmp rfl _ _ _, ?_⟩
      have hO9 := ownsRow_putObj g4 (.deferred none) hK9 rfl
      rw [hup.out] at hO9
      exact upRet_own (Nat.le_succ _) (by rw [hlen.out]) hO9 (B9.trans (belowK_b (w := w) (Nat.le_refl _) w9 D _ _ (by omega) hK9 rfl rfl))
    · rw [if_neg e] at hcut
      have e2 : (⟨ab, ao, none⟩ : Addr).add (p * 32) = ⟨ab, ao + p * 32, none⟩ := by
        unfold Addr.add
        by_cases h0 : p * 32 = 0
        · rw [if_pos h0, h0]; rfl
        · rw [if_neg h0]
      rw [Option.map_some, e2] at hcut
      have hR6 := hcut.below (hBW.drew)
      gi_wp2
      refine Flow.wpIn_region_flow Plain.wide (by kernel_rfl) (w.heap.size) [(7, fun b => (Value.slice A M c).ownBlock = some b)] [(0, fun W => Blk W (w.heap.size + 2) 22 (#[.slice A M c])), (7, fun W => W.ownsRow (w.heap.size + 1) 24 32 (.slice A M c) M (ncells ns0)), (9, fun W => KeepsOthers wr W)] (by kernel_rfl) (by kernel_rfl) hszr (Flow.nz_cons (fun b hb => by have := (own_some hO hb).1; omega) Flow.nz_nil) (Flow.facts_cons (hS.drew) (Flow.kept_blk id) (Flow.fz_cons (Flow.no_follow (by kernel_rfl)) Flow.fz_nil) (Flow.facts_cons (hO.drew) (Flow.kept_own (fun _ _ => id)) (Flow.fz_cons (Flow.no_follow (by kernel_rfl)) Flow.fz_nil) (Flow.facts_cons (KeepsOthers.drew wr) (kept_others (fun _ _ h _ => h.elim)) (Flow.fz_cons (fun _ => kept_others (fun b o hb ho => own_cells hO hb ho)) Flow.fz_nil) Flow.facts_nil))) ?_
      refine Flow.pass_val (.slice A M c) (Flow.met_none rfl) (fun a W hH => ?_) ?_
      · have e0 := Flow.see_old 5 hH.sees (by kernel_rfl) (by kernel_rfl) rfl
        have fa0 : (fun W => Blk W (w.heap.size + 2) 22 (#[.slice A M c])) W := hH.fact _ (List.mem_of_getElem? (i := 0) rfl) rfl
        have cf : World.cell? W ⟨(w.heap.size + 2), 0, none⟩ = some (.slice A M c) := (fa0.cell 0).trans rfl; go_simp
      refine Flow.pass_old (X := .slice (some ⟨ab, ao, none⟩) N cc0) 0 (Flow.met_none rfl) (.inl rfl) (by kernel_rfl) (by kernel_rfl) rfl ?_
      refine Flow.pass_old (X := .slice (some ⟨ab, ao, none⟩) N cc0) 0 (Flow.met_none rfl) (.inl rfl) (by kernel_rfl) (by kernel_rfl) rfl ?_
      refine Flow.pass_val (.int .i64 (N : Int)) (Flow.met_none rfl) (fun a W hH => ?_) ?_
      · have e0 := Flow.see_new 26 2 hH.sees (by kernel_rfl) (by kernel_rfl) rfl rfl
        go_simp; first | done | rfl
      refine Flow.pass_val (.int .i64 (M : Int)) (Flow.met_none rfl) (fun a W hH => ?_) ?_
      · have e0 := Flow.see_new 27 3 hH.sees (by kernel_rfl) (by kernel_rfl) rfl rfl
        go_simp; first | done | rfl | (rw [hdw])
      refine Flow.pass_val (.int .i64 (p : Int)) (Flow.met_none rfl) (fun a W hH => ?_) ?_
      · have e0 := Flow.see_new 28 4 hH.sees (by kernel_rfl) (by kernel_rfl) rfl rfl
        go_simp; first | done | rfl | (rw [hwp]) | omega
      refine Flow.pass_val (.slice (some ⟨ab, ao + p * 32, none⟩) (N - p) (cc0 - p)) (Flow.met_none rfl) (fun a W hH => ?_) ?_
      · have e0 := Flow.see_new 25 1 hH.sees (by kernel_rfl) (by kernel_rfl) rfl rfl
        have e1 := Flow.see_new 29 5 hH.sees (by kernel_rfl) (by kernel_rfl) rfl rfl
        go_simp; first | done | rfl
      refine Flow.pass_list (fun v W => ∃ A1 c1, v = .slice A1 (M + (N - p)) c1 ∧ W.ownsRow (w.heap.size + 1) 24 32 (.slice A1 (M + (N - p)) c1) (M + (N - p)) ((ncells ns0) ++ ncells ns1)) (Flow.kept_of (fun _ _ _ c ⟨A1, c1, h1, h2⟩ => ⟨A1, c1, h1, own_chg h2 c (fun _ _ => id)⟩) (Flow.kz_cons (Flow.no_follow (by kernel_rfl)) Flow.kz_nil)) (Flow.met_none rfl) (fun a W hH => ?_) ?_
      · have e0 := Flow.see_new 24 0 hH.sees (by kernel_rfl) (by kernel_rfl) rfl rfl
        have e1 := Flow.see_new 30 6 hH.sees (by kernel_rfl) (by kernel_rfl) rfl rfl
        have fa1 : (fun W => W.ownsRow (w.heap.size + 1) 24 32 (.slice A M c) M (ncells ns0)) W := hH.fact _ (List.mem_of_getElem? (i := 1) rfl) rfl
        refine wpList_app W elNz rfl _ _ rfl (w.heap.size + 1) A M c _ (by simpa [Act.eval] using e0) fa1 w.heap.size (some ⟨ab, ao + p * 32, none⟩) (N - p) (cc0 - p) (ncells ns1) (by simpa [Act.eval] using e1) (hR6.below hH.below) ncells_one (by omega) (by omega) (Nat.le_trans hgbr hH.below.size) ?_
        intro A1 c1 W2 hO2 hg hB hob
        exact Flow.qq_nil ⟨_, rfl, Chg.grown hg (fun b hb => hb), A1, c1, rfl, hO2⟩
      refine Flow.pass_copy 31 7 (Flow.met_none rfl) (.inr rfl) (by kernel_rfl) (by kernel_rfl) rfl rfl (Flow.kept_of (fun _ _ _ c ⟨A1, c1, h1, h2⟩ => ⟨A1, c1, h1, own_chg h2 c (fun _ _ => id)⟩) (Flow.kz_cons (Flow.no_follow (by kernel_rfl)) Flow.kz_nil)) ?_
      refine Flow.pass_end [none, none, none, none, some 4, none, none, none, none, none, none, none, none, none, none, none, none, none, none, none, none, none, none, none, some 24, some 25, some 26, some 27, some 28, some 29, some 30, some 31] (by kernel_rfl) ?_
      intro f gg w9 hB hfa hT hfg
      obtain ⟨A14, c14, h4, g4⟩ := hT 8 _ (by kernel_rfl) rfl
      rw [← hfg 4 8 (by kernel_rfl)] at h4
      have F2 : (fun W => KeepsOthers wr W) w9 := hfa _ (List.mem_of_getElem? (i := 2) rfl) (Nat.le_refl _)
      refine ⟨rfl, ?_⟩
      have F2 := hfa _ (List.mem_of_getElem? (i := 2) rfl) (Nat.le_refl _)
      have hK9 := F2.same D _ hK rfl
      have B9 := hBW.drew.trans hB
      simp only [Reg.sel, h4]
      clear hfa hT hfg hR6 hO hS
      gi_wp2
      refine ⟨by simp, .inl ⟨_, _, rfl, run_takeDeferred hK9, ?_⟩⟩
      refine ⟨_, results_tmp rfl _ _ _, ?_⟩
      have hO9 := ownsRow_putObj g4 (.deferred none) hK9 rfl
      rw [hup.out] at hO9
      exact upRet_own (Nat.le_succ _) (by rw [hlen.out]) hO9 (B9.trans (belowK_b (w := w) (Nat.le_refl _) w9 D _ _ (by omega) hK9 rfl rfl))
  case stop =>
    rintro D c pre W _ _ h _
    exact h.elim
end Go.Proofs.YtgfdjfglfipjfaaDoor
