/-
  Walk: xmss.PutSig.
-/
import Derived.Test.YtnjfghlgknnhmaaSigE
import Derived.Test.YtnjfghlgknnhmaaXmssG
namespace Go.Proofs.Ytnjfghlgknnhmaa
open Go.RowKit

theorem run_buildB2 (w : World) (A1 : Option Addr) (n1 c1 : Nat) (A2 : Option Addr) (n2 c2 : Nat) :
    (Instr.buildSlice 103 2 #[(0, .slice A1 n1 c1), (1, .slice A2 n2 c2)]).run Try.prog w = .ok (.slice (some ⟨w.heap.size, 0, none⟩) 2 2) (w.alloc (.cells #[.slice A1 n1 c1, .slice A2 n2 c2] 27)) := by
  go_simp
def sigBytes (g : Sg) : List UInt8 := putNum g.i 4 false ++ (g.r ++ (g.ots.flatten ++ g.auth.flatten))
/-- nodes that lie side by side, as slices -/
def nodeBs (b o : Nat) (ns : List (List UInt8)) (k : Nat) : List Bs := (List.range k).map fun i => ⟨some ⟨b, o + i * 32, none⟩, 32, 32, ns[i]?.getD []⟩
theorem nodeBs_succ (b o : Nat) (ns : List (List UInt8)) (k : Nat) : nodeBs b o ns (k + 1) = nodeBs b o ns k ++ [⟨some ⟨b, o + k * 32, none⟩, 32, 32, ns[k]?.getD []⟩] := by simp [nodeBs, List.range_succ]
theorem nodeBs_all (b o : Nat) (ns : List (List UInt8)) : ∀ k, k ≤ ns.length → Bs.all (nodeBs b o ns k) = (ns.take k).flatten
  | 0, _ => by simp [nodeBs, Bs.all]
  | k + 1, h => by
    have ih := nodeBs_all b o ns k (by omega)
    rw [nodeBs_succ, List.take_succ_eq_append_getElem (by omega)]
    simp only [Bs.all, List.flatMap_append, List.flatten_append] at ih ⊢
    rw [ih, List.getElem?_eq_getElem (by omega)]
    simp
theorem nodeBs_tot (b o : Nat) (ns : List (List UInt8)) : ∀ k, Bs.tot (nodeBs b o ns k) = 32 * k
  | 0 => by simp [nodeBs, Bs.tot]
  | k + 1 => by
    have ih := nodeBs_tot b o ns k
    rw [nodeBs_succ]
    simp only [Bs.tot, List.map_append, List.sum_append] at ih ⊢
    rw [ih]; simp; omega
theorem nodeBs_ok {w : World} {B b o : Nat} {ns : List (List UInt8)} (hl : ∀ x ∈ ns, x.length = 32) (h : w.rangeAt b o (ncells ns)) (hb : b < B) (k : Nat) (hk : k ≤ ns.length) : ∀ x ∈ nodeBs b o ns k, x.ok w B := by
  intro x hx
  simp only [nodeBs, List.mem_map, List.mem_range] at hx
  obtain ⟨i, hi, rfl⟩ := hx
  have hi' : i < ns.length := by omega
  have hr := range_node h hl i hi'
  simp only [Bs.ok, List.getElem?_eq_getElem hi', Option.getD_some]
  exact ⟨by rw [bcells_length, hl _ (List.getElem_mem hi')], fun j v hv => ⟨_, rfl, hb, by rw [Addr.add_mid]; exact hr j v hv⟩⟩
theorem tot_append (a b : List Bs) : Bs.tot (a ++ b) = Bs.tot a + Bs.tot b := by simp [Bs.tot]
theorem all_append (a b : List Bs) : Bs.all (a ++ b) = Bs.all a ++ Bs.all b := by simp [Bs.all]

theorem own_base {w : World} {base base' : Nat} {e : TypeId} {size : Nat} {v : Value} {n : Nat} {xs : List Value} (h : w.ownsRow base e size v n xs) (hb : base' ≤ base) : w.ownsRow base' e size v n xs := by
  refine ⟨h.1, ?_⟩
  rcases h.2 with h2 | ⟨g, cap, cur, h1, h2, h3⟩
  · exact .inl h2
  · exact .inr ⟨g, cap, cur, h1, by omega, h3⟩
theorem own_ne2 {w : World} {b1 b2 s1 s2 n1 n2 : Nat} {e1 e2 : TypeId} {v1 v2 : Value} {x1 x2 : List Value} {b : Nat} (h1 : w.ownsRow b1 e1 s1 v1 n1 x1) (h2 : w.ownsRow b2 e2 s2 v2 n2 x2) (he : e1 ≠ e2) (hb : v1.ownBlock = some b) : ¬ v2.ownBlock = some b := by
  intro hb2
  rcases h1.2 with ⟨rfl, _⟩ | ⟨g, cap, cur, rfl, _, hh, _⟩
  · cases hb
  · cases hb
    exact own_ne h2 (g := g) (cs := cur) hh he hb2 rfl

/-- the parts, as the loops gather them -/
def Parts (w : World) (B : Nat) (ps : List Bs) (A4 : Option Addr) (c4 : Nat) (put : List UInt8) (v : Value) (wr : World) : Prop :=
  Below w.heap.size w wr ∧ B ≤ wr.heap.size ∧ wr.ownsRow B 5 1 (.slice A4 4 c4) 4 (bcells put) ∧ ∃ A c, v = .slice A ps.length c ∧ wr.ownsRow B 27 1 (.slice A ps.length c) ps.length (ps.map Bs.val)
theorem wpList_part {ops : Array Oper} {rest : List Oper} {o : Oper} {a : Act} {Q : Exit → Act → World → Prop} (W : World) (hgd : o.guard = none) (s x : Operand) (ho : o.op = .call { callee := .builtin .append, args := #[s, x], argTypes := #[103, 103] })
    (w : World) (B : Nat) (ps : List Bs) (A4 : Option Addr) (c4 : Nat) (put : List UInt8) (v : Value) (hB0 : w.heap.size ≤ B) (hP : Parts w B ps A4 c4 put v W) (hs : a.eval s = v) (b : Bs) (hx : a.eval x = .slice (some ⟨W.heap.size, 0, none⟩) 1 1) (hn : ps.length ≤ 1000000)
    (h : ∀ v' W5, Parts w B (ps ++ [b]) A4 c4 put v' W5 → Below B W W5 → wpList Try.prog ops Q rest (a.put o.dst v') W5) :
    wpList Try.prog ops Q (o :: rest) a (W.alloc (.cells #[b.val] 27)) := by
  obtain ⟨h1, h2, h3, A, c, rfl, hO⟩ := hP
  refine wpList_app1 W elBB hgd s x ho B A ps.length c _ hs hO b.val hx rfl (by omega) (by omega) h2 ?_
  intro A' c' W5 hO5 hg5 hB5
  refine h (.slice A' (ps.length + 1) c') W5 ⟨h1.trans (hB5.mono hB0), Nat.le_trans h2 hg5.size, h3.kept hg5 ?_, A', c', by rw [List.length_append]; rfl, by rw [List.length_append, List.map_append]; exact hO5⟩ hB5
  by_cases hv : (Value.slice A4 4 c4).ownBlock = none
  · exact .inl hv
  · right
    intro e
    cases hb : (Value.slice A4 4 c4).ownBlock with
    | none => exact hv hb
    | some k => rw [hb] at e; exact own_ne2 h3 hO (by decide) hb e.symm

def putOk (g : Sg) (o : Nat) : Bool := isKind o && may g.ots.length g.auth.length g.i (hgt o)

set_option maxRecDepth 100000 in
set_option maxHeartbeats 4000000 in
theorem mPutSig_yes (g : Sg) (ok : g.ok) (o : Nat) (hk : isKind o = true) (hm : may g.ots.length g.auth.length g.i (hgt o) = true) (A1 A2 : Option Addr) (d1 d2 : Nat) (w : World)
    (r1 : Rd w w.heap.size 32 A1 g.ots.length (ncells g.ots)) (r2 : Rd w w.heap.size 32 A2 g.auth.length (ncells g.auth)) :
    Calls Try.prog 26 #[.agg (sigCells g.i g.r (.slice A1 g.ots.length d1) (.slice A2 g.auth.length d2)).toArray, .int .u32 o] w (BytesErr w (sigBytes g) 0) := by
  have hh : hgt o ≤ 20 := by unfold hgt; split <;> (try split) <;> (try split) <;> omega
  have hb := Blk.new w 32 (sigCells g.i g.r (.slice A1 g.ots.length d1) (.slice A2 g.auth.length d2)).toArray
  have B1 : Below w.heap.size w (w.alloc (.cells (sigCells g.i g.r (.slice A1 g.ots.length d1) (.slice A2 g.auth.length d2)).toArray 32)) := (Below.refl _ _).alloc (Nat.le_refl _) _
  have hm' := hm
  simp only [may, Bool.and_eq_true, beq_iff_eq, decide_eq_true_eq] at hm'
  obtain ⟨⟨n67, nh⟩, _⟩ := hm'
  have HM := Lib.hid hm
  have N67 := Lib.hid n67
  have NH := Lib.hid nh
  have hv35 : Hid ((sigCells g.i g.r (.slice A1 g.ots.length d1) (.slice A2 g.auth.length d2)).toArray.size = 35) := Lib.hid (sg35 _ _ _ _ ok.r)
  have hb36 := fun W => run_sig36 g.i g.r (.slice A1 g.ots.length d1) (.slice A2 g.auth.length d2) (hgt o) W ok.r
  clear n67 nh hm
  go_enter Try.func26, Try.ntmps26
  go_wp2_with fail
  generalize w.alloc (.cells (sigCells g.i g.r (.slice A1 g.ots.length d1) (.slice A2 g.auth.length d2)).toArray 32) = W0 at *
  refine (mHeight_any o W0).mono ?_
  rintro e w' ⟨rfl, rfl⟩
  rw [hk]
  go_wp2_with (first
    | ((with_reducible refine at_load 32 ?_); refine wpList_loadAll W0 rfl 32 _ rfl w.heap.size 32 _ hb _ rfl Try.underlying32 rfl (by rw [hv35.out]; exact inf35) ?_)
    | ((with_reducible refine at_build 96 ?_); refine wpList_buildV W0 rfl #[(0, .agg (sigCells g.i g.r (.slice A1 g.ots.length d1) (.slice A2 g.auth.length d2)).toArray), (1, .int .i64 (hgt o : Nat))] rfl ?_ (hb36 W0) ?_; (simp [Act.eval]))
    | fail)
  refine (may_any g.i g.r ok.r A1 A2 g.ots.length d1 g.auth.length d2 (hgt o) ok.i hh W0).mono ?_
  rintro e W1 ⟨rfl, hB1⟩
  rw [HM.out]
  have hb := hb.below hB1 hb.lt
  have B2 := B1.trans (hB1.mono B1.size)
  go_wp2_with fail
  have hR := (sig_root hb.drew)
  have hsz1 := hb.lt
  have HR : Hid (∀ W, Below W1.drew.heap.size W1.drew W → W.rangeAt w.heap.size 1 (bcells g.r)) := Lib.hid fun W hB => hR.later hB hsz1
  have hc0 : Hid (∀ W, Below W1.drew.heap.size W1.drew W → W.cell? ⟨w.heap.size, 0, none⟩ = some (.int .u32 g.i)) := Lib.hid fun W hB => (sig_cell35 ok.r (hb.drew.below hB hsz1)).1
  clear hR
  refine Flow.wp_region_flow (W1.drew.heap.size) [] [] (by kernel_rfl) (by kernel_rfl) (Nat.le_refl _) (fun _ h => by cases h) Flow.facts_nil ?_
  apply Flow.pass_val (hm := (Flow.met_none rfl))
  · intro a W hH
    have e0 := Flow.see_old 2 hH.sees (by kernel_rfl) (by kernel_rfl) rfl
    go_simp; first | done | rfl
  refine Flow.pass_val (.int .u32 (g.i : Nat)) (Flow.met_none rfl) (fun a W hH => ?_) ?_
  · have e0 := Flow.see_new 25 0 hH.sees (by kernel_rfl) (by kernel_rfl) rfl rfl
    have cc := hc0.out W hH.below; go_simp
  apply Flow.pass_build (hkept := Flow.kept_of (Flow.kept_built _ _ _) Flow.kz_nil) (hm := (Flow.met_none rfl))
  · intro a W hH
    have e0 := Flow.see_new 26 1 hH.sees (by kernel_rfl) (by kernel_rfl) rfl rfl
    go_simp; first | done | rfl | exact ⟨rfl, rfl⟩
  refine Flow.pass_step (fun v W => ∃ A c, v = .slice A 4 c ∧ W.ownsRow W1.heap.size 5 1 (.slice A 4 c) 4 (bcells (putNum g.i 4 false))) (Flow.kept_of (fun _ _ _ c ⟨A, k, h1, h2⟩ => ⟨A, k, h1, own_chg h2 c (fun _ _ => id)⟩) Flow.kz_nil) (Flow.met_none rfl) (fun a W hH => ?_) ?_
  · obtain ⟨b0, e0, q0⟩ := Flow.see_up 27 2 hH.sees (by kernel_rfl) (by kernel_rfl) rfl rfl
    refine Reg.wp_call rfl Try.func55 rfl (by kernel_rfl) (by simp [Act.eval, e0]) (putBe32_any none 0 0 [] W (some ⟨b0, 0, none⟩) 1 1 [g.i] (Rd.nil _ _ _ _) (by omega) (q0.rd rfl) (by omega)) ?_
    rintro e w' ⟨A9, c9, rfl, hO, hB⟩
    have hO1 : w'.ownsRow W.heap.size 5 1 (.slice A9 4 c9) 4 (bcells (putNum g.i 4 false)) := by simpa [putAll] using hO
    exact ⟨_, rfl, _, rfl, hB, A9, c9, rfl, own_base hO1 hH.below.size⟩
  apply Flow.pass_val (hm := (Flow.met_none rfl))
  · intro a W hH
    have e0 := Flow.see_old 2 hH.sees (by kernel_rfl) (by kernel_rfl) rfl
    go_simp; first | done | rfl
  apply Flow.pass_val (hm := (Flow.met_none rfl))
  · intro a W hH
    have e0 := Flow.see_new 29 4 hH.sees (by kernel_rfl) (by kernel_rfl) rfl rfl
    go_simp; first | done | rfl
  refine Flow.pass_gen (fun v W => ∃ A c b, v = .slice (some ⟨b, 0, none⟩) 2 2 ∧ (W1.heap.size ≤ b ∧ Blk W b 27 #[.slice A 4 c, .slice (some ⟨w.heap.size, 1, none⟩) 32 32] ∧ W.ownsRow W1.heap.size 5 1 (.slice A 4 c) 4 (bcells (putNum g.i 4 false)))) (Flow.kept_of (fun _ _ _ c ⟨A, k, b, h1, h0, h2, h3⟩ => ⟨A, k, b, h1, h0, h2.ext c.ext, own_chg h3 c (fun _ _ => id)⟩) Flow.kz_nil) (Flow.met_none rfl) (fun a W hH => ?_) ?_
  · obtain ⟨A0, c0, e0, q0⟩ := Flow.see_up 28 3 hH.sees (by kernel_rfl) (by kernel_rfl) rfl rfl
    have e1 := Flow.see_new 30 5 hH.sees (by kernel_rfl) (by kernel_rfl) rfl rfl
    refine Flow.wp_run (Flow.reg_buildSlice _ rfl (by simp [Act.eval, e0, e1]) (run_buildB2 W A0 4 c0 (some ⟨w.heap.size, 1, none⟩) 32 32)) ?_
    refine ⟨_, rfl, Chg.of_ext ((Ext.refl W).alloc _), A0, c0, W.heap.size, rfl, hH.below.size, Blk.new _ _ _, ?_⟩
    exact q0.alloc _
  refine Flow.pass_copy 31 6 (Flow.met_none rfl) (.inr rfl) (by kernel_rfl) (by kernel_rfl) rfl rfl (Flow.kept_of (fun _ _ _ c ⟨A, k, b, h1, h0, h2, h3⟩ => ⟨A, k, b, h1, h0, h2.ext c.ext, own_chg h3 c (fun _ _ => id)⟩) Flow.kz_nil) ?_
  refine Flow.pass_end [none, none, none, none, none, none, none, none, some 8, none, none, none, none, none, none, none, none, none, none, none, none, none, none, none, none, some 25, some 26, some 27, some 28, some 29, some 30, some 31, none, none, none, none, none, none, none, none, none, none, none, none, none, none, none, none, none, none, none, none, none, none, none, none, none, none, none, none, none, none, none, none] (by kernel_rfl) ?_
  intro f gg w9 hB hfa hT hfg
  obtain ⟨A8, c8, b8, h8, g8⟩ := hT 7 _ (by kernel_rfl) rfl
  rw [← hfg 8 7 (by kernel_rfl)] at h8
  obtain ⟨hbb, hB8, hO4⟩ := g8
  simp only [Reg.sel, h8]
  clear hT hfg hfa h8 hc0
  have B9 := B2.trans ((Below.drew (Below.refl W1.heap.size W1)).trans hB |>.mono (Nat.le_of_lt hsz1))
  have hb := hb.below ((Below.drew (Below.refl W1.heap.size W1)).trans hB) hsz1
  obtain ⟨ps0, hps0⟩ : ∃ ps0 : List Bs, ps0 = [⟨A8, 4, c8, putNum g.i 4 false⟩, ⟨some ⟨w.heap.size, 1, none⟩, 32, 32, g.r⟩] := ⟨_, rfl⟩
  have hP0 : Parts w W1.heap.size ps0 A8 c8 (putNum g.i 4 false) (.slice (some ⟨b8, 0, none⟩) 2 2) w9 := by
    rw [hps0]
    exact ⟨B9, hB.size, hO4, some ⟨b8, 0, none⟩, 2, rfl, hB8.own hbb rfl (Nat.le_refl _) (by omega)⟩
  have hl0 : ps0.length = 2 := by rw [hps0]; rfl
  have HL0 := Lib.hid hl0
  have HPS := Lib.hid hps0
  clear hps0 hl0 hB8 hO4 hbb hb36 hB1 B1
  obtain ⟨b1, o1, rfl, hb1, hr1⟩ := r1.range (by have := N67.out; omega)
  have hcell := (sig_cell35 ok.r hb).2.1
  go_wp2_with fail
  clear hcell hB
  go_loopw [8, 35] (fun v i wr => ∃ k : Nat, k ≤ 67 ∧ i = .int .i64 k ∧ Parts w W1.heap.size (ps0 ++ nodeBs b1 o1 g.ots k) A8 c8 (putNum g.i 4 false) v wr ∧ Blk wr w.heap.size 32 (sigCells g.i g.r (.slice (some ⟨b1, o1, none⟩) g.ots.length d1) (.slice A2 g.auth.length d2)).toArray) (fun _ i _ => 67 - (intOf i).toNat)
  case atStart => exact ⟨0, by omega, rfl, by simpa [nodeBs] using hP0, hb⟩
  case round =>
    obtain ⟨k, hk67, rfl, hP, hb⟩ := hrel
    have hcell := (sig_cell35 ok.r hb).2.1
    by_cases hlt : k < 67
    · have hk2 : k < g.ots.length := by have := N67.out; omega
      have hbs := nodeBs_succ b1 o1 g.ots k
      have HBS := Lib.hid hbs
      have hlen : (ps0 ++ nodeBs b1 o1 g.ots k).length ≤ 1000000 := by rw [List.length_append, HL0.out]; simp [nodeBs]; omega
      have HLEN := Lib.hid hlen
      clear hbs hlen
      go_wp2_with (first
        | ((with_reducible refine at_append ?_); refine wpList_part wr rfl _ _ rfl w W1.heap.size (ps0 ++ nodeBs b1 o1 g.ots k) A8 c8 (putNum g.i 4 false) _ (Nat.le_of_lt hsz1) hP rfl ⟨some ⟨b1, o1 + k * 32, none⟩, 32, 32, g.ots[k]?.getD []⟩ rfl HLEN.out ?_; intro v' W5 hP5 hB5)
        | fail)
      have hb5 := hb.below hB5 hsz1
      rw [List.append_assoc, ← HBS.out] at hP5
      clear hP hb hB5 hcell
      go_roundw
      case rel => exact ⟨k + 1, by omega, by go_num, hP5, hb5⟩
      case measure => simp [intOf]; omega
    · obtain rfl : k = 67 := by omega
      have hlg : ¬ (67 : Int) < (g.ots.length : Nat) := by have := N67.out; omega
      have hcell2 := (sig_cell35 ok.r hb).2.2
      obtain ⟨ps1, hps1⟩ : ∃ ps1, ps1 = ps0 ++ nodeBs b1 o1 g.ots 67 := ⟨_, rfl⟩
      rw [← hps1] at hP
      have HP1 := Lib.hid hps1
      have hl1 : Hid (ps1.length = 69) := Lib.hid (by rw [hps1, List.length_append, HL0.out]; simp [nodeBs])
      clear hps1 hcell
      obtain ⟨b2, o2, rfl, hb2, hr2⟩ : ∃ b2 o2, A2 = some ⟨b2, o2, none⟩ ∧ b2 < w.heap.size ∧ w.rangeAt b2 o2 (ncells g.auth) := by
        refine r2.range ?_
        have := NH.out
        have : 10 ≤ hgt o := by
          simp only [isKind, Bool.or_eq_true, beq_iff_eq] at hk
          rcases hk with (rfl | rfl) | rfl <;> decide
        omega
      go_wp2_with fail
      clear hcell2
      go_loopw [8, 50] (fun v i wr => ∃ k : Nat, k ≤ g.auth.length ∧ i = .int .i64 k ∧ Parts w W1.heap.size (ps1 ++ nodeBs b2 o2 g.auth k) A8 c8 (putNum g.i 4 false) v wr ∧ Blk wr w.heap.size 32 (sigCells g.i g.r (.slice (some ⟨b1, o1, none⟩) g.ots.length d1) (.slice (some ⟨b2, o2, none⟩) g.auth.length d2)).toArray) (fun _ i _ => g.auth.length - (intOf i).toNat)
      case atStart => exact ⟨0, by omega, rfl, by simpa [nodeBs] using hP, hb⟩
      case round =>
        obtain ⟨k, hka, rfl, hP, hb⟩ := hrel
        have hcell := (sig_cell35 ok.r hb).2.2
        by_cases hlt : k < g.auth.length
        · have HLT := Lib.hid hlt
          have hkb : k ≤ 100 := by have := NH.out; omega
          have HBS := Lib.hid (nodeBs_succ b2 o2 g.auth k)
          have HLEN : Hid ((ps1 ++ nodeBs b2 o2 g.auth k).length ≤ 1000000) := Lib.hid (by rw [List.length_append, hl1.out]; simp [nodeBs]; have := NH.out; omega)
          go_wp2_with (first
            | ((with_reducible refine at_append ?_); refine wpList_part wr rfl _ _ rfl w W1.heap.size (ps1 ++ nodeBs b2 o2 g.auth k) A8 c8 (putNum g.i 4 false) _ (Nat.le_of_lt hsz1) hP rfl ⟨some ⟨b2, o2 + k * 32, none⟩, 32, 32, g.auth[k]?.getD []⟩ rfl HLEN.out ?_; intro v' W5 hP5 hB5)
            | fail)
          have hb5 := hb.below hB5 hsz1
          rw [List.append_assoc, ← HBS.out] at hP5
          clear hP hb hB5 hcell
          go_roundw
          case rel => exact ⟨k + 1, by have := HLT.out; omega, by go_num, hP5, hb5⟩
          case measure => simp [intOf]; have := HLT.out; omega
        · obtain rfl : k = g.auth.length := by omega
          clear hcell
          obtain ⟨BW, hBW, hO4, A, c, rfl, hO⟩ := hP
          have hwr := BW.size
          have hps : ∀ b ∈ ps1 ++ nodeBs b2 o2 g.auth g.auth.length, b.ok wr wr.heap.size := by
            intro x hx
            have hR1 := sig_root hb
            rcases List.mem_append.1 hx with hx | hx
            · rw [HP1.out] at hx
              rcases List.mem_append.1 hx with hx | hx
              · rw [HPS.out] at hx
                simp only [List.mem_cons, List.not_mem_nil, or_false] at hx
                rcases hx with rfl | rfl
                · exact Rd.of_own hO4
                · exact ⟨by simp [bcells_length, ok.r], fun j v hv => ⟨_, rfl, hb.lt, by rw [Addr.add_mid]; exact hR1 j v hv⟩⟩
              · exact nodeBs_ok ok.ots (hr1.later BW hb1) (Nat.lt_of_lt_of_le hb1 hwr) 67 (by have := N67.out; omega) x hx
            · exact nodeBs_ok ok.auth (hr2.later BW hb2) (Nat.lt_of_lt_of_le hb2 hwr) _ (Nat.le_refl _) x hx
          have htot : Bs.tot (ps1 ++ nodeBs b2 o2 g.auth g.auth.length) = (sigBytes g).length ∧ Bs.all (ps1 ++ nodeBs b2 o2 g.auth g.auth.length) = sigBytes g := by
            have ea : Bs.all (ps1 ++ nodeBs b2 o2 g.auth g.auth.length) = sigBytes g := by
              rw [HP1.out, all_append, all_append, nodeBs_all b1 o1 g.ots 67 (by have := N67.out; omega), nodeBs_all b2 o2 g.auth _ (Nat.le_refl _), HPS.out]
              rw [List.take_of_length_le (by have := N67.out; omega), List.take_of_length_le (Nat.le_refl _)]
              simp [Bs.all, sigBytes]
            refine ⟨?_, ea⟩
            rw [← ea]
            have := Rd.of_own hO
            have hsum : ∀ l : List Bs, (∀ b ∈ l, b.l.length = b.n) → Bs.tot l = (Bs.all l).length := by
              intro l
              induction l with
              | nil => intro _; rfl
              | cons x l ih =>
                intro h
                have := ih fun b hb => h b (by simp [hb])
                simp only [Bs.tot, Bs.all, List.map_cons, List.sum_cons, List.flatMap_cons, List.length_append] at this ⊢
                rw [this, h x (by simp)]
            refine hsum _ fun b hb => ?_
            have := (hps b hb).len
            rw [bcells_length] at this; omega
          obtain ⟨htot, hall⟩ := htot
          have hsl : (sigBytes g).length ≤ 3000 := by
            rw [← htot, HP1.out, tot_append, tot_append, nodeBs_tot, nodeBs_tot, HPS.out]
            simp [Bs.tot]; have := NH.out; omega
          have hcnt : (ps1 ++ nodeBs b2 o2 g.auth g.auth.length).length ≤ 1000000 := by rw [List.length_append, hl1.out]; simp [nodeBs]; have := NH.out; omega
          generalize ps1 ++ nodeBs b2 o2 g.auth g.auth.length = ps at *
          have HT := Lib.hid htot
          have HA := Lib.hid hall
          have HC := Lib.hid hcnt
          clear htot hall hcnt
          go_wp2_with fail
          refine (cat_any A ps.length c ps wr (Rd.of_own hO) hps (by rw [HT.out]; omega) HC.out).mono ?_
          rintro e W9 ⟨A9, c9, rfl, hO9, hB9⟩
          rw [HT.out, HA.out] at hO9
          rw [HT.out]
          go_wp2
          go_ret2
          exact ⟨A9, c9, rfl, Flow.own_le hO9, Rd.of_own hO9, BW.trans (hB9.mono hwr)⟩
end Go.Proofs.Ytnjfghlgknnhmaa
