/-
  Walk: portreeveref04.PutSig; both PutSig of any signature.
-/
import Derived.Test.YtnjfghlgknnhmaaSigG
import Derived.Test.YtnjfghlgknnhmaaSigC
namespace Go.Proofs.Ytnjfghlgknnhmaa
open Go.RowKit

/-- bytes of the call's own, as a loop gathers them -/
def Bt (w : World) (B : Nat) (L : List UInt8) (v : Value) (wr : World) : Prop :=
  Below w.heap.size w wr ∧ B ≤ wr.heap.size ∧ ∃ A c, v = .slice A L.length c ∧ wr.ownsRow B 5 1 (.slice A L.length c) L.length (bcells L)
theorem Bt.chg {w wr W : World} {B : Nat} {L : List UInt8} {v : Value} (h : Bt w B L v wr) (c : Chg (fun b => b = wr.heap.size) wr W) : Bt w B L v W := by
  obtain ⟨h1, h2, A, k, rfl, hO⟩ := h
  refine ⟨h1.trans (c.below (n := w.heap.size) (fun j e => by have e2 : j = wr.heap.size := e; have := h1.size; omega) h1.size), Nat.le_trans h2 c.size, A, k, rfl, own_chg hO c fun b hb e => ?_⟩
  have := (own_some hO hb).2
  have e2 : b = wr.heap.size := e
  omega
theorem take_flatten (ns : List (List UInt8)) (k : Nat) (h : k < ns.length) : (ns.take (k + 1)).flatten = (ns.take k).flatten ++ ns[k] := by
  rw [List.take_succ_eq_append_getElem h, List.flatten_append]; simp
theorem flatten_length (ns : List (List UInt8)) (h : ∀ x ∈ ns, x.length = 32) : ns.flatten.length = 32 * ns.length := by
  induction ns with
  | nil => rfl
  | cons a l ih =>
    have := ih fun x hx => h x (by simp [hx])
    rw [List.flatten_cons, List.length_append, this, h a (by simp)]; simp; omega
theorem wpList_bt {ops : Array Oper} {rest : List Oper} {o : Oper} {a : Act} {Q : Exit → Act → World → Prop} (W : World) (hgd : o.guard = none) (s x : Operand) (ho : o.op = .call { callee := .builtin .append, args := #[s, x], argTypes := #[27, 27] })
    (w : World) (B : Nat) (L : List UInt8) (v : Value) (hB0 : w.heap.size ≤ B) (hP : Bt w B L v W) (hs : a.eval s = v) (B2 : Nat) (A2 : Option Addr) (m c2 : Nat) (L2 : List UInt8) (hx : a.eval x = .slice A2 m c2) (hr : Rd W B2 1 A2 m (bcells L2)) (hn : L.length + m ≤ 100000000)
    (h : ∀ v' W5, Bt w B (L ++ L2) v' W5 → Below B W W5 → wpList Try.prog ops Q rest (a.put o.dst v') W5) : wpList Try.prog ops Q (o :: rest) a W := by
  obtain ⟨h1, h2, A, c, rfl, hO⟩ := hP
  have hm : L2.length = m := by have := hr.len; rw [bcells_length] at this; omega
  refine wpList_app W el8 hgd s x ho B A L.length c _ hs hO B2 A2 m c2 (bcells L2) hx hr (bcells_one L2) (by omega) (by omega) h2 ?_
  intro A' c' W5 hO5 hg5 hB5 _
  refine h _ W5 ⟨h1.trans (hB5.mono hB0), Nat.le_trans h2 hg5.size, A', c', by rw [List.length_append, hm], ?_⟩ hB5
  rw [List.length_append, hm, bcells_append]; exact hO5
theorem shl_one32 (h : Nat) (hh : h ≤ 20) : IntKind.u32.wrap (2 ^ h) = ((2 ^ h : Nat) : Int) := by
  have : (2 : Nat) ^ h ≤ 2 ^ 20 := Nat.pow_le_pow_right (by omega) hh
  rw [IntWalk.u32_in _ (by constructor; exact Int.pow_nonneg (by omega); have : ((2 : Int) ^ h) = ((2 ^ h : Nat) : Int) := by rw [Int.natCast_pow]; rfl
                           omega)]
  rw [Int.natCast_pow]; rfl

set_option maxRecDepth 100000 in
set_option maxHeartbeats 4000000 in
theorem rPutSig_no (g : Sg) (ok : g.ok) (o : Nat) (hk : isKind o = true) (hm : may g.ots.length g.auth.length g.i (hgt o) = false) (A1 A2 : Option Addr) (d1 d2 : Nat) (w : World) :
    Calls Try.prog 27 #[.agg (sigCells g.i g.r (.slice A1 g.ots.length d1) (.slice A2 g.auth.length d2)).toArray, .int .u32 o] w fun e w' => e = .returned (.tuple #[.slice none 0 0, .int .i64 81]) ∧ Below w.heap.size w w' := by
  have hh : hgt o ≤ 20 := by unfold hgt; split <;> (try split) <;> (try split) <;> omega
  have hb := Blk.new w 32 (sigCells g.i g.r (.slice A1 g.ots.length d1) (.slice A2 g.auth.length d2)).toArray
  have B1 : Below w.heap.size w (w.alloc (.cells (sigCells g.i g.r (.slice A1 g.ots.length d1) (.slice A2 g.auth.length d2)).toArray 32)) := (Below.refl _ _).alloc (Nat.le_refl _) _
  have hw := shl_one32 (hgt o) hh
  obtain ⟨p2, hp2⟩ : ∃ p2, p2 = 2 ^ hgt o := ⟨_, rfl⟩
  rw [← hp2] at hw
  obtain ⟨x0, x1, x2⟩ := sig_cell35 ok.r hb
  simp only [may, ← hp2] at hm
  clear hp2
  go_enter Try.func27, Try.ntmps27
  go_wp2_with fail
  generalize w.alloc (.cells (sigCells g.i g.r (.slice A1 g.ots.length d1) (.slice A2 g.auth.length d2)).toArray 32) = W0 at *
  refine (rHeight_any o W0).mono ?_
  rintro e w' ⟨rfl, rfl⟩
  rw [hk]
  by_cases n67 : g.ots.length = 67
  · by_cases nh : g.auth.length = hgt o
    · have hi : ¬ g.i < p2 := by intro hi; simp [n67, nh, hi] at hm
      clear hm
      go_wp2_with fail
      go_quiet (fail)
      go_wp2
      go_ret2
      exact ⟨rfl, below_drewN B1 _⟩
    · clear hm
      have e1 : (((g.auth.length : Nat) : Int) == (hgt o : Nat)) = false := by simp; omega
      have e2 : (((g.auth.length : Nat) : Int) != (hgt o : Nat)) = true := by simp; omega
      go_wp2_with fail
      go_quiet (fail)
      go_wp2
      go_ret2
      exact ⟨rfl, below_drewN B1 _⟩
  · clear hm
    have e1 : (((g.ots.length : Nat) : Int) == 67) = false := by simp; omega
    have e2 : (((g.ots.length : Nat) : Int) != 67) = true := by simp; omega
    go_wp2_with fail
    go_quiet (fail)
    go_wp2
    go_ret2
    exact ⟨rfl, below_drewN B1 _⟩

set_option maxRecDepth 100000 in
set_option maxHeartbeats 2000000 in
theorem rPutSig_kind (g : Sg) (o : Nat) (hk : isKind o = false) (A1 A2 : Option Addr) (d1 d2 : Nat) (w : World) :
    Calls Try.prog 27 #[.agg (sigCells g.i g.r (.slice A1 g.ots.length d1) (.slice A2 g.auth.length d2)).toArray, .int .u32 o] w fun e w' => e = .returned (.tuple #[.slice none 0 0, .int .i64 80]) ∧ Below w.heap.size w w' := by
  have B1 : Below w.heap.size w (w.alloc (.cells (sigCells g.i g.r (.slice A1 g.ots.length d1) (.slice A2 g.auth.length d2)).toArray 32)) := (Below.refl _ _).alloc (Nat.le_refl _) _
  go_enter Try.func27, Try.ntmps27
  go_wp2_with fail
  generalize w.alloc (.cells (sigCells g.i g.r (.slice A1 g.ots.length d1) (.slice A2 g.auth.length d2)).toArray 32) = W0 at *
  refine (rHeight_any o W0).mono ?_
  rintro e w' ⟨rfl, rfl⟩
  rw [hk]
  go_wp2
  go_ret2
  exact ⟨rfl, B1⟩
set_option maxRecDepth 100000 in
set_option maxHeartbeats 2000000 in
theorem mPutSig_kind (g : Sg) (o : Nat) (hk : isKind o = false) (A1 A2 : Option Addr) (d1 d2 : Nat) (w : World) :
    Calls Try.prog 26 #[.agg (sigCells g.i g.r (.slice A1 g.ots.length d1) (.slice A2 g.auth.length d2)).toArray, .int .u32 o] w fun e w' => e = .returned (.tuple #[.slice none 0 0, .int .i64 80]) ∧ Below w.heap.size w w' := by
  have B1 : Below w.heap.size w (w.alloc (.cells (sigCells g.i g.r (.slice A1 g.ots.length d1) (.slice A2 g.auth.length d2)).toArray 32)) := (Below.refl _ _).alloc (Nat.le_refl _) _
  go_enter Try.func26, Try.ntmps26
  go_wp2_with fail
  generalize w.alloc (.cells (sigCells g.i g.r (.slice A1 g.ots.length d1) (.slice A2 g.auth.length d2)).toArray 32) = W0 at *
  refine (mHeight_any o W0).mono ?_
  rintro e w' ⟨rfl, rfl⟩
  rw [hk]
  go_wp2
  go_ret2
  exact ⟨rfl, B1⟩
set_option maxRecDepth 100000 in
set_option maxHeartbeats 2000000 in
theorem mPutSig_no (g : Sg) (ok : g.ok) (o : Nat) (hk : isKind o = true) (hm : may g.ots.length g.auth.length g.i (hgt o) = false) (A1 A2 : Option Addr) (d1 d2 : Nat) (w : World) :
    Calls Try.prog 26 #[.agg (sigCells g.i g.r (.slice A1 g.ots.length d1) (.slice A2 g.auth.length d2)).toArray, .int .u32 o] w fun e w' => e = .returned (.tuple #[.slice none 0 0, .int .i64 81]) ∧ Below w.heap.size w w' := by
  have hh : hgt o ≤ 20 := by unfold hgt; split <;> (try split) <;> (try split) <;> omega
  have hb := Blk.new w 32 (sigCells g.i g.r (.slice A1 g.ots.length d1) (.slice A2 g.auth.length d2)).toArray
  have B1 : Below w.heap.size w (w.alloc (.cells (sigCells g.i g.r (.slice A1 g.ots.length d1) (.slice A2 g.auth.length d2)).toArray 32)) := (Below.refl _ _).alloc (Nat.le_refl _) _
  have HM := Lib.hid hm
  have hv35 : Hid ((sigCells g.i g.r (.slice A1 g.ots.length d1) (.slice A2 g.auth.length d2)).toArray.size = 35) := Lib.hid (sg35 _ _ _ _ ok.r)
  have hb36 := fun W => run_sig36 g.i g.r (.slice A1 g.ots.length d1) (.slice A2 g.auth.length d2) (hgt o) W ok.r
  clear hm
  go_enter Try.func26, Try.ntmps26
  go_wp2_with fail
  generalize w.alloc (.cells (sigCells g.i g.r (.slice A1 g.ots.length d1) (.slice A2 g.auth.length d2)).toArray 32) = W0 at *
  refine (mHeight_any o W0).mono ?_
  rintro e w' ⟨rfl, rfl⟩
  rw [hk]
  go_wp2_with (first
    | ((with_reducible refine at_load 32 ?_); refine wpList_loadAll W0 rfl 32 _ rfl w.heap.size 32 _ hb _ rfl Try.underlying32 rfl (by rw [hv35.out]; exact inf35) ?_)
    | ((with_reducible refine at_build 96 ?_); refine wpList_buildV W0 rfl #[(0, .agg (sigCells g.i g.r (.slice A1 g.ots.length d1) (.slice A2 g.auth.length d2)).toArray), (1, .int .i64 (hgt o : Nat))] rfl ?_ (hb36 W0) ?_; (simp [Act.eval]))
    | fail)
  refine (may_any g.i g.r ok.r A1 A2 g.ots.length d1 g.auth.length d2 (hgt o) ok.i hh W0).mono ?_
  rintro e W1 ⟨rfl, hB1⟩
  rw [HM.out]
  go_wp2
  go_ret2
  exact ⟨rfl, B1.trans (hB1.mono B1.size)⟩

set_option maxRecDepth 100000 in
set_option maxHeartbeats 4000000 in
theorem rPutSig_yes (g : Sg) (ok : g.ok) (o : Nat) (hk : isKind o = true) (hm : may g.ots.length g.auth.length g.i (hgt o) = true) (A1 A2 : Option Addr) (d1 d2 : Nat) (w : World)
    (r1 : Rd w w.heap.size 32 A1 g.ots.length (ncells g.ots)) (r2 : Rd w w.heap.size 32 A2 g.auth.length (ncells g.auth)) :
    Calls Try.prog 27 #[.agg (sigCells g.i g.r (.slice A1 g.ots.length d1) (.slice A2 g.auth.length d2)).toArray, .int .u32 o] w (BytesErr w (sigBytes g) 0) := by
  have hh : hgt o ≤ 20 := by unfold hgt; split <;> (try split) <;> (try split) <;> omega
  have hb := Blk.new w 32 (sigCells g.i g.r (.slice A1 g.ots.length d1) (.slice A2 g.auth.length d2)).toArray
  have B1 : Below w.heap.size w (w.alloc (.cells (sigCells g.i g.r (.slice A1 g.ots.length d1) (.slice A2 g.auth.length d2)).toArray 32)) := (Below.refl _ _).alloc (Nat.le_refl _) _
  have hw := shl_one32 (hgt o) hh
  obtain ⟨p2, hp2⟩ : ∃ p2, p2 = 2 ^ hgt o := ⟨_, rfl⟩
  rw [← hp2] at hw
  obtain ⟨x0, x1, x2⟩ := sig_cell35 ok.r hb
  simp only [may, ← hp2, Bool.and_eq_true, beq_iff_eq, decide_eq_true_eq] at hm
  obtain ⟨⟨n67, nh⟩, hi⟩ := hm
  have hi' : ¬ p2 ≤ g.i := by omega
  have N67 := Lib.hid n67
  have NH := Lib.hid nh
  clear hp2 n67 nh
  go_enter Try.func27, Try.ntmps27
  go_wp2_with fail
  generalize w.alloc (.cells (sigCells g.i g.r (.slice A1 g.ots.length d1) (.slice A2 g.auth.length d2)).toArray 32) = W0 at *
  refine (rHeight_any o W0).mono ?_
  rintro e w' ⟨rfl, rfl⟩
  rw [hk]
  go_wp2_with fail
  have n67 := N67.out
  have nh := NH.out
  go_quiet (fail)
  have B1 := below_drewN B1 nq
  have hb := hb.drewN nq
  clear n67 nh hi hi' hw x0 x1 x2
  generalize W0.drewN nq = W1 at *
  have hR := (sig_root hb.drew)
  have hsz1 := hb.lt
  have HR : Hid (∀ W, Below W1.heap.size W1.drew W → W.rangeAt w.heap.size 1 (bcells g.r)) := Lib.hid fun W hB => hR.later hB hsz1
  have hc0 : Hid (∀ W, Below W1.heap.size W1.drew W → W.cell? ⟨w.heap.size, 0, none⟩ = some (.int .u32 g.i)) := Lib.hid fun W hB => (sig_cell35 ok.r (hb.drew.below hB hsz1)).1
  have hcv : IntKind.u64.wrap (g.i : Int) = (g.i : Int) := IntWalk.u64_in _ (by have := ok.i; omega)
  clear hR
  go_wp2_with fail
  refine Flow.wp_region_flow (W1.heap.size) [(6, fun b => W1.heap.size ≤ b)] [] (by kernel_rfl) (by kernel_rfl) (Nat.le_refl _) (Flow.nz_cons (fun _ h => h) Flow.nz_nil) Flow.facts_nil ?_
  apply Flow.pass_val (hm := (Flow.met_none rfl))
  · intro a W hH
    have e0 := Flow.see_old 2 hH.sees (by kernel_rfl) (by kernel_rfl) rfl
    go_simp; first | done | rfl
  refine Flow.pass_val (.int .u32 (g.i : Nat)) (Flow.met_none rfl) (fun a W hH => ?_) ?_
  · have e0 := Flow.see_new 38 0 hH.sees (by kernel_rfl) (by kernel_rfl) rfl rfl
    have cc := hc0.out W hH.below; go_simp
  refine Flow.pass_val (.int .u64 (g.i : Nat)) (Flow.met_none rfl) (fun a W hH => ?_) ?_
  · have e0 := Flow.see_new 39 1 hH.sees (by kernel_rfl) (by kernel_rfl) rfl rfl
    go_simp
  refine Flow.pass_lin [6] (fun v W => ∃ A c, v = .slice A (0 + 4) c ∧ W.ownsRow W1.heap.size 5 1 (.slice A (0 + 4) c) (0 + 4) (bcells ([] ++ putNum g.i 4 false))) (Flow.kept_lin [6] (fun _ _ _ c ⟨A, k, h1, h2⟩ => ⟨A, k, h1, own_chg h2 c (fun _ _ => id)⟩) (Flow.lz_cons (fun _ => .inl rfl) Flow.lz_nil)) (Flow.met_none rfl) (fun a W hH => ?_) ?_
  · have e0 := Flow.see_new 40 2 hH.sees (by kernel_rfl) (by kernel_rfl) rfl rfl
    refine Flow.wp_callZ rfl Try.func56 rfl (by kernel_rfl) (by simp [Act.eval, e0]) (rput_any none 0 0 false [] W g.i 4 (Rd.nil _ _ _ _) (by omega) (by omega)) ?_
    rintro e w2 ⟨A9, c9, rfl, hO, hB⟩
    exact ⟨_, rfl, Chg.of_ext hB, A9, c9, rfl, own_base hO hH.below.size⟩
  apply Flow.pass_val (hm := (Flow.met_none rfl))
  · intro a W hH
    have e0 := Flow.see_old 2 hH.sees (by kernel_rfl) (by kernel_rfl) rfl
    go_simp; first | done | rfl
  apply Flow.pass_val (hm := (Flow.met_none rfl))
  · intro a W hH
    have e0 := Flow.see_new 42 4 hH.sees (by kernel_rfl) (by kernel_rfl) rfl rfl
    go_simp; first | done | rfl
  refine Flow.pass_list (fun v W => ∃ A c, v = .slice A (0 + 4 + 32) c ∧ W.ownsRow W1.heap.size 5 1 (.slice A (0 + 4 + 32) c) (0 + 4 + 32) (bcells ([] ++ putNum g.i 4 false ++ g.r))) (Flow.kept_of (fun _ _ _ c ⟨A, k, h1, h2⟩ => ⟨A, k, h1, own_chg h2 c (fun _ _ => id)⟩) (Flow.kz_cons (Flow.no_follow (by kernel_rfl)) Flow.kz_nil)) (Flow.met_none rfl) (fun a W hH => ?_) ?_
  · obtain ⟨A0, c0, e0, q0⟩ := Flow.see_lin 41 3 hH.sees (by kernel_rfl) (by kernel_rfl) rfl rfl (by kernel_rfl)
    have e1 := Flow.see_new 43 5 hH.sees (by kernel_rfl) (by kernel_rfl) rfl rfl
    refine wpList_app W el8 rfl _ _ rfl W1.heap.size A0 (0 + 4) c0 _ (by simpa [Act.eval] using e0) q0 W.heap.size (some ⟨w.heap.size, 1, none⟩) 32 32 _ (by simpa [Act.eval] using e1) ?_ (bcells_one g.r) (by omega) (by omega) hH.below.size ?_
    · exact ⟨by simp [bcells_length, ok.r], fun j v hv => ⟨_, rfl, Nat.lt_of_lt_of_le hsz1 hH.below.size, by rw [Addr.add_mid]; exact HR.out W hH.below j v hv⟩⟩
    intro A' c' W2 hO2 hg hB _
    exact Flow.qq_nil ⟨_, rfl, Chg.of_below hB (fun k hk _ => hk), A', c', rfl, by rw [bcells_append]; exact hO2⟩
  refine Flow.pass_copy 44 6 (Flow.met_none rfl) (.inr rfl) (by kernel_rfl) (by kernel_rfl) rfl rfl (Flow.kept_of (fun _ _ _ c ⟨A, k, h1, h2⟩ => ⟨A, k, h1, own_chg h2 c (fun _ _ => id)⟩) (Flow.kz_cons (Flow.no_follow (by kernel_rfl)) Flow.kz_nil)) ?_
  refine Flow.pass_end [none, none, none, none, none, none, none, none, some 8, none, none, none, none, none, none, none, none, none, none, none, none, none, none, none, none, none, none, none, none, none, none, none, none, none, none, none, none, none, some 38, some 39, some 40, some 41, some 42, some 43, some 44, none, none, none, none, none, none, none, none, none, none, none, none, none, none, none, none, none, none, none, none, none, none, none] (by kernel_rfl) ?_
  intro f gg w9 hB hfa hT hfg
  obtain ⟨A8, c8, h8, g8⟩ := hT 7 _ (by kernel_rfl) rfl
  rw [← hfg 8 7 (by kernel_rfl)] at h8
  have B9 := B1.trans ((Below.drew (Below.refl W1.heap.size W1)).trans hB |>.mono (Nat.le_of_lt hsz1))
  have hb := hb.below ((Below.drew (Below.refl W1.heap.size W1)).trans hB) hsz1
  obtain ⟨pre, hpre⟩ : ∃ pre : List UInt8, pre = putNum g.i 4 false ++ g.r := ⟨_, rfl⟩
  have hpl : pre.length = 36 := by rw [hpre, List.length_append, putNum_length, ok.r]
  have hP0 : Bt w W1.heap.size pre (.slice A8 (0 + 4 + 32) c8) w9 := ⟨B9, hB.size, A8, c8, by rw [hpl], by rw [hpl, hpre]; exact g8⟩
  have HPL := Lib.hid hpl
  have HPRE := Lib.hid hpre
  simp only [Reg.sel, h8]
  clear hpre hpl g8 hT hfg hfa h8 hc0 hcv HR
  obtain ⟨b1, o1, rfl, hb1, hr1⟩ := r1.range (by have := N67.out; omega)
  have hcell := (sig_cell35 ok.r hb).2.1
  go_wp2_with fail
  clear hcell hB B9
  go_loopw [8, 48] (fun v i wr => ∃ k : Nat, k ≤ 67 ∧ i = .int .i64 k ∧ Bt w W1.heap.size (pre ++ (g.ots.take k).flatten) v wr ∧ Blk wr w.heap.size 32 (sigCells g.i g.r (.slice (some ⟨b1, o1, none⟩) g.ots.length d1) (.slice A2 g.auth.length d2)).toArray) (fun _ i _ => 67 - (intOf i).toNat)
  case atStart => exact ⟨0, by omega, rfl, by simpa using hP0, hb⟩
  case round =>
    obtain ⟨k, hk67, rfl, hP, hb⟩ := hrel
    by_cases hlt : k < 67
    · have hk2 : k < g.ots.length := by have := N67.out; omega
      have HBS := Lib.hid (take_flatten g.ots k hk2)
      have hnd := (range_node hr1 ok.ots k hk2).later hP.1 hb1
      have ndL : Hid (g.ots[k].length = 32) := Lib.hid (ok.ots _ (List.getElem_mem hk2))
      have HLEN : Hid ((pre ++ (g.ots.take k).flatten).length + 32 ≤ 100000000) := Lib.hid (by
        rw [List.length_append, HPL.out, flatten_length _ fun x hx => ok.ots x (List.mem_of_mem_take hx), List.length_take]; omega)
      generalize g.ots[k] = nd at *
      have hlnd : Hid ((bcells nd).length = 32) := Lib.hid (by rw [bcells_length]; exact ndL.out)
      have hnb := Blk.new wr 29 (bcells zeroNode0).toArray
      have hwr := hb.lt
      have hz32 : Hid ((bcells zeroNode0).toArray.size = 32) := Lib.hid rfl
      go_wp2_with (first
        | ((with_reducible refine at_load 29 ?_); refine wpList_load_mid rfl 29 _ rfl b1 (o1 + k * 32) rfl (bcells nd) _ hnd Try.underlying29 rfl (by rw [hlnd.out]; exact infNode) ?_)
        | ((with_reducible refine at_store 29 ?_); refine wpList_storeAll _ rfl 29 _ _ rfl wr.heap.size 29 _ (bcells nd).toArray hnb rfl rfl (by rw [List.size_toArray, hlnd.out]; rfl) (by rw [List.size_toArray, hlnd.out]; exact infNode) (by simpa using bcells_one nd) ?_; intro W3 hb3 hg3 hs3;
            have hC3 := (Chg.of_ext (Z := fun b => b = wr.heap.size) ((Ext.refl wr).alloc (.cells (bcells zeroNode0).toArray 29))).trans (Chg.grown hg3 (by rintro k h; cases h; rfl)); have hP3 := hP.chg hC3; have hsg3 := hb.chg hC3 (by show ¬ _ = _; omega); clear hs3)
        | ((with_reducible refine at_append ?_); refine wpList_bt W3 rfl _ _ rfl w W1.heap.size (pre ++ (g.ots.take k).flatten) _ (Nat.le_of_lt hsz1) hP3 rfl W3.heap.size (some ⟨wr.heap.size, 0, none⟩) 32 32 nd rfl (hb3.rd (size := 1) (n := 32) (by rw [List.size_toArray, hlnd.out])) HLEN.out ?_; intro v' W5 hP5 hB5)
        | fail)
      have hb5 := hsg3.below hB5 hsz1
      rw [List.append_assoc, ← HBS.out] at hP5
      clear hP hb hB5 hP3 hsg3 hC3 hg3 hb3 hnb hnd
      go_roundw
      case rel => exact ⟨k + 1, by omega, by go_num, hP5, hb5⟩
      case measure => simp [intOf]; omega
    · obtain rfl : k = 67 := by omega
      have hlg : ¬ (67 : Int) < (g.ots.length : Nat) := by have := N67.out; omega
      rw [List.take_of_length_le (by have := N67.out; omega)] at hP
      have hcell2 := (sig_cell35 ok.r hb).2.2
      obtain ⟨b2, o2, rfl, hb2, hr2⟩ : ∃ b2 o2, A2 = some ⟨b2, o2, none⟩ ∧ b2 < w.heap.size ∧ w.rangeAt b2 o2 (ncells g.auth) := by
        refine r2.range ?_
        have := NH.out
        have : 10 ≤ hgt o := by
          simp only [isKind, Bool.or_eq_true, beq_iff_eq] at hk
          rcases hk with (rfl | rfl) | rfl <;> decide
        omega
      obtain ⟨pre2, hpre2⟩ : ∃ pre2, pre2 = pre ++ g.ots.flatten := ⟨_, rfl⟩
      rw [← hpre2] at hP
      have HPL2 : Hid (pre2.length = 2180) := Lib.hid (by rw [hpre2, List.length_append, HPL.out, flatten_length _ ok.ots]; have := N67.out; omega)
      have HPRE2 := Lib.hid hpre2
      clear hpre2
      go_wp2_with fail
      clear hcell2
      go_loopw [8, 59] (fun v i wr => ∃ k : Nat, k ≤ g.auth.length ∧ i = .int .i64 k ∧ Bt w W1.heap.size (pre2 ++ (g.auth.take k).flatten) v wr ∧ Blk wr w.heap.size 32 (sigCells g.i g.r (.slice (some ⟨b1, o1, none⟩) g.ots.length d1) (.slice (some ⟨b2, o2, none⟩) g.auth.length d2)).toArray) (fun _ i _ => g.auth.length - (intOf i).toNat)
      case atStart => exact ⟨0, by omega, rfl, by simpa using hP, hb⟩
      case round =>
        obtain ⟨k, hka, rfl, hP, hb⟩ := hrel
        by_cases hlt : k < g.auth.length
        · have HLT := Lib.hid hlt
          have hkb : k ≤ 100 := by have := NH.out; omega
          have HBS := Lib.hid (take_flatten g.auth k hlt)
          have hnd := (range_node hr2 ok.auth k hlt).later hP.1 hb2
          have ndL : Hid (g.auth[k].length = 32) := Lib.hid (ok.auth _ (List.getElem_mem hlt))
          have HLEN : Hid ((pre2 ++ (g.auth.take k).flatten).length + 32 ≤ 100000000) := Lib.hid (by
            rw [List.length_append, HPL2.out, flatten_length _ fun x hx => ok.auth x (List.mem_of_mem_take hx), List.length_take]; omega)
          generalize g.auth[k] = nd at *
          have hlnd : Hid ((bcells nd).length = 32) := Lib.hid (by rw [bcells_length]; exact ndL.out)
          have hnb := Blk.new wr 29 (bcells zeroNode0).toArray
          have hwr := hb.lt
          have hz32 : Hid ((bcells zeroNode0).toArray.size = 32) := Lib.hid rfl
          go_wp2_with (first
            | ((with_reducible refine at_load 29 ?_); refine wpList_load_mid rfl 29 _ rfl b2 (o2 + k * 32) rfl (bcells nd) _ hnd Try.underlying29 rfl (by rw [hlnd.out]; exact infNode) ?_)
            | ((with_reducible refine at_store 29 ?_); refine wpList_storeAll _ rfl 29 _ _ rfl wr.heap.size 29 _ (bcells nd).toArray hnb rfl rfl (by rw [List.size_toArray, hlnd.out]; rfl) (by rw [List.size_toArray, hlnd.out]; exact infNode) (by simpa using bcells_one nd) ?_; intro W3 hb3 hg3 hs3;
                have hC3 := (Chg.of_ext (Z := fun b => b = wr.heap.size) ((Ext.refl wr).alloc (.cells (bcells zeroNode0).toArray 29))).trans (Chg.grown hg3 (by rintro k h; cases h; rfl)); have hP3 := hP.chg hC3; have hsg3 := hb.chg hC3 (by show ¬ _ = _; omega); clear hs3)
            | ((with_reducible refine at_append ?_); refine wpList_bt W3 rfl _ _ rfl w W1.heap.size (pre2 ++ (g.auth.take k).flatten) _ (Nat.le_of_lt hsz1) hP3 rfl W3.heap.size (some ⟨wr.heap.size, 0, none⟩) 32 32 nd rfl (hb3.rd (size := 1) (n := 32) (by rw [List.size_toArray, hlnd.out])) HLEN.out ?_; intro v' W5 hP5 hB5)
            | fail)
          have hb5 := hsg3.below hB5 hsz1
          rw [List.append_assoc, ← HBS.out] at hP5
          clear hP hb hB5 hP3 hsg3 hC3 hg3 hb3 hnb hnd
          go_roundw
          case rel => exact ⟨k + 1, by have := HLT.out; omega, by go_num, hP5, hb5⟩
          case measure => simp [intOf]; have := HLT.out; omega
        · obtain rfl : k = g.auth.length := by omega
          rw [List.take_of_length_le (Nat.le_refl _)] at hP
          have es : pre2 ++ g.auth.flatten = sigBytes g := by rw [HPRE2.out, HPRE.out]; simp [sigBytes]
          rw [es] at hP
          obtain ⟨BW, hBW, A, c, rfl, hO⟩ := hP
          have hlsb : Hid (List.length (sigBytes g) = List.length (sigBytes g)) := Lib.hid rfl
          generalize hSB : sigBytes g = SB at *
          go_wp2
          go_ret2
          exact ⟨A, c, rfl, Flow.own_le hO, Rd.of_own hO, BW⟩
end Go.Proofs.Ytnjfghlgknnhmaa
