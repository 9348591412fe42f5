/-
  Parts: GdO.
-/
import Derived.Test.YtpellkblaeeopaaGreatDoorC36
/-
  Walk: table.Build.
-/
namespace Go.Proofs.YtpellkblaeeopaaGreatDoor
open Go.RowKit Go.Shelf

attribute [local go_sem] Oper.semAt_some

/-- the pages of stretches -/
def pagesL (S : List Sp) : List Nat := S.flatMap fun s => (List.range (s.size / 4096)).map fun i => s.base + 4096 * i
def pasOf (S : List Sp) (i : Nat) : Nat := (pagesL S)[i]?.getD 0
theorem pagesL_length : ∀ (S : List Sp), (∀ s ∈ S, s.size % 4096 = 0) → (pagesL S).length = sumS S / 4096
  | [], _ => rfl
  | s :: S, h => by
    have h1 := h s (List.mem_cons_self ..)
    have ih := pagesL_length S (fun x hx => h x (List.mem_cons_of_mem _ hx))
    simp only [pagesL, List.flatMap_cons, List.length_append, List.length_map, List.length_range, sumS, List.map_cons, List.sum_cons] at *
    omega
theorem pagesL_append (a b : List Sp) : pagesL (a ++ b) = pagesL a ++ pagesL b := by simp [pagesL]
theorem pasOf_at (S : List Sp) (h : ∀ s ∈ S, s.size % 4096 = 0) (k : Nat) (s : Sp) (hs : S[k]? = some s) (i : Nat) (hi : i < s.size / 4096) : pasOf S (sumS (S.take k) / 4096 + i) = s.base + 4096 * i := by
  have hl := pagesL_length (S.take k) (fun x hx => h x (List.mem_of_mem_take hx))
  have e : S = S.take k ++ (s :: S.drop (k + 1)) := by
    have := List.take_append_drop k S
    obtain ⟨hk, e1⟩ := List.getElem?_eq_some_iff.1 hs
    conv => lhs; rw [← this]
    congr 1
    rw [List.drop_eq_getElem_cons hk, e1]
  obtain ⟨j0, hj0⟩ : ∃ j0, j0 = sumS (S.take k) / 4096 := ⟨_, rfl⟩
  rw [← hj0] at hl ⊢
  unfold pasOf
  have e3 : pagesL S = pagesL (S.take k) ++ pagesL (s :: S.drop (k + 1)) := by rw [← pagesL_append, ← e]
  rw [e3, List.getElem?_append_right (by omega), hl, Nat.add_sub_cancel_left]
  simp only [pagesL, List.flatMap_cons]
  rw [List.getElem?_append_left (by simp; omega)]
  simp [hi]
def BuildRet (w : World) (p g bm k0 : Nat) (S : List Sp) (F Q : Nat → Prop) (N : Nat) (e : Ending) (w' : World) : Prop :=
  e = .returned (.tuple #[.int .u64 (pgA k0 : Int), .int .i64 0]) ∧ ∃ m' F' Q' N', PMem w' p ramT m' F' N' ∧ Blk w' p 72 #[.int .u64 1073741824, .int .u64 67108864, .map (some bm)] ∧ PoolW w' g (k0 + 4) Q' ∧ (∀ b, F' b → ¬ Q' b) ∧
    TabM m' k0 (sumS S / 4096) (pasOf S) ∧ N' ≤ N + 12288 ∧ Chg (fun b => F b ∨ Q b) w w' ∧ (∀ b, F' b → F b ∨ w.heap.size ≤ b) ∧ ∀ b, Q' b → Q b ∨ w.heap.size ≤ b
/-- between the parts -/
structure BdS (w W : World) (p g bm bt k0 j : Nat) (S : List Sp) (Ds : List Nat) (F Q X : Nat → Prop) (N : Nat) : Prop where
  bd : BdI w W (bt + 3) (bt + 1) p g bm bt k0 j (pasOf S) F Q X N
  b6 : Blk W w.heap.size 22 #[.int .u64 0]
  b7 : Blk W (w.heap.size + 1) 27 #[.int .i64 0]
  b10 : Blk W (bt + 1 + 1) 94 #[.pointer (some ⟨bt + 1, 0, none⟩)]
  mks : Marks Ds W
theorem BdS.ext {w W W' : World} {p g bm bt k0 j : Nat} {S : List Sp} {Ds : List Nat} {F Q X : Nat → Prop} {N : Nat} (h : BdS w W p g bm bt k0 j S Ds F Q X N) (e : Ext W W') : BdS w W' p g bm bt k0 j S Ds F Q X N :=
  ⟨h.bd.ext e, h.b6.ext e, h.b7.ext e, h.b10.ext e, h.mks.keep fun D hD => e.block D (h.mks.lt D hD)⟩
theorem BdS.grown {w W W' : World} {p g bm bt k0 j B : Nat} {S : List Sp} {Ds : List Nat} {F Q X : Nat → Prop} {N : Nat} {row : Option Nat} (h : BdS w W p g bm bt k0 j S Ds F Q X N) (hg : W.grownBy W' row)
    (hr : ∀ r, row = some r → B ≤ r ∧ ∃ o : Obj, W.heap[r]? = some o ∧ o.isCells = false) (hm : bm < B) (ht : bt < B) (h0 : w.heap.size ≤ B) (hD : ∀ D ∈ Ds, D < B) : BdS w W' p g bm bt k0 j S Ds F Q X N :=
  ⟨h.bd.grown hg hr hm ht h0, blk_keptS h.b6 hg (fun r e => (hr r e).2), blk_keptS h.b7 hg (fun r e => (hr r e).2), blk_keptS h.b10 hg (fun r e => (hr r e).2), h.mks.grown hg fun r e hx => by have := (hr r e).1; have := hD r hx; omega⟩
theorem BdS.far {w W W' : World} {p g bm bt k0 j r : Nat} {S : List Sp} {Ds : List Nat} {F Q X : Nat → Prop} {N : Nat} (h : BdS w W p g bm bt k0 j S Ds F Q X N) (hg : W.grownBy W' (some r)) (hX : X r) (h0 : w.heap.size + 2 ≤ r) (h1 : bt + 3 ≤ r) (hD : ∀ D ∈ Ds, D < r) : BdS w W' p g bm bt k0 j S Ds F Q X N :=
  ⟨h.bd.far hg hX (by omega), h.b6.grown hg (fun e => by have := Option.some.inj e; omega), h.b7.grown hg (fun e => by have := Option.some.inj e; omega), h.b10.grown hg (fun e => by have := Option.some.inj e; omega), h.mks.grown hg fun k e hx => by have := Option.some.inj e; have := hD k hx; omega⟩
set_option maxRecDepth 100000 in
set_option maxHeartbeats 4000000 in
theorem build_any (p g bm k0 : Nat) (hk0 : k0 = 0 ∨ k0 = 4) (b off n c : Nat) (S : List Sp) (hS : Strs S) (hs2 : sumS S < 2097152) (hs1 : 4096 ≤ sumS S) (hn1 : n ≤ 1000000) (m : Mm) (F Q : Nat → Prop) (N : Nat) (hN : N ≤ 1000000) (w : World)
    (hR : Rd w w.heap.size 5 (some ⟨b, off, none⟩) n (pcells (mapsFrom 0 S))) (hM : PMem w p ramT m F N) (hpb : Blk w p 72 #[.int .u64 1073741824, .int .u64 67108864, .map (some bm)]) (hP : PoolW w g k0 Q) (hFQ : ∀ b, F b → ¬ Q b) (hbF : ¬ F b) (hbQ : ¬ Q b) :
    Calls Tryz.prog 9 #[.pointer (some ⟨p, 0, none⟩), .pointer (some ⟨g, 0, none⟩), .slice (some ⟨b, off, none⟩) n c] w (BuildRet w p g bm k0 S F Q N) := by
  have hln : S.length = n := by have := hR.len; rw [pcells_length, mapsFrom_length] at this; omega
  have HLN := Lib.hid hln
  have HS := Lib.hid hS
  have E0 : Ext w ((w.alloc (.cells #[.int .u64 0] 22)).alloc (.cells #[.int .i64 0] 27)) := ((Ext.refl w).alloc _).alloc _
  have hneed := fun W (e : Ext w W) => need_any b off n c S hS hs2 hn1 W ((hR.keep fun q hq => World.cell?_of_block (e.block q.block hq)).more e.size)
  have hb6 := (Blk.new w 22 #[.int .u64 0]).alloc (.cells #[.int .i64 0] 27)
  have hb7 := Blk.new (w.alloc (.cells #[.int .u64 0] 22)) 27 #[.int .i64 0]
  rw [World.size_alloc] at hb7
  have hsz0 : ((w.alloc (.cells #[.int .u64 0] 22)).alloc (.cells #[.int .i64 0] 27)).heap.size = w.heap.size + 2 := by simp
  clear hln hS
  refine (callsIn_wide (n := 6)).1 ?_
  refine callsIn_of_wp_marks Tryz.func9 rfl trivial ?_ rfl
  simp only [Tryz.ntmps9, List.size_toArray, List.length_cons, List.length_nil, Nat.reduceAdd, Nat.reduceSub, Array.replicate_succ, Array.replicate_zero, List.push_toArray, List.append_toArray, List.nil_append, List.cons_append]
  gi_wp2_with fail
  generalize (w.alloc (.cells #[.int .u64 0] 22)).alloc (.cells #[.int .i64 0] 27) = W1 at *
  refine ⟨trivial, ((callsIn_wide (n := 5)).2 (hneed _ E0)).mono ?_⟩
  rintro e w2 ⟨⟨z, rfl⟩, hB2⟩
  have E2 : Ext W1 w2 := (Chg.of_below (Z := fun _ => False) hB2 (fun b h1 h2 => absurd h2 (by omega))).ext
  have hb6 := hb6.ext E2
  have hb7 := hb7.ext E2
  have E02 := E0.trans E2
  have hw2l : w.heap.size + 2 ≤ w2.heap.size := by have := E2.size; omega
  clear hneed hB2 E0 E2 hsz0
  gi_wp2_with ((with_reducible refine atIn_makeMap 95 ?_); refine wpListIn_mapNew _ rfl 95 rfl ?_)
  have hbt0 := MapP.new w2
  have Ea : Ext (w2.alloc (.map #[] 0)) (((w2.alloc (.map #[] 0)).alloc (.cells #[.pointer (some ⟨p, 0, none⟩), .pointer (some ⟨g, 0, none⟩), .int .u64 0, .map (some w2.heap.size)] 97)).alloc (.cells #[.pointer (some ⟨w2.heap.size + 1, 0, none⟩)] 94)) := ((Ext.refl _).alloc _).alloc _
  have hbb0 := (Blk.new (w2.alloc (.map #[] 0)) 97 #[.pointer (some ⟨p, 0, none⟩), .pointer (some ⟨g, 0, none⟩), .int .u64 0, .map (some w2.heap.size)]).alloc (.cells #[.pointer (some ⟨w2.heap.size + 1, 0, none⟩)] 94)
  have hb10 := Blk.new ((w2.alloc (.map #[] 0)).alloc (.cells #[.pointer (some ⟨p, 0, none⟩), .pointer (some ⟨g, 0, none⟩), .int .u64 0, .map (some w2.heap.size)] 97)) 94 #[.pointer (some ⟨w2.heap.size + 1, 0, none⟩)]
  have E3 : Ext w2 (((w2.alloc (.map #[] 0)).alloc (.cells #[.pointer (some ⟨p, 0, none⟩), .pointer (some ⟨g, 0, none⟩), .int .u64 0, .map (some w2.heap.size)] 97)).alloc (.cells #[.pointer (some ⟨w2.heap.size + 1, 0, none⟩)] 94)) := ((Ext.refl w2).alloc _).trans Ea
  have hs3 : (((w2.alloc (.map #[] 0)).alloc (.cells #[.pointer (some ⟨p, 0, none⟩), .pointer (some ⟨g, 0, none⟩), .int .u64 0, .map (some w2.heap.size)] 97)).alloc (.cells #[.pointer (some ⟨w2.heap.size + 1, 0, none⟩)] 94)).heap.size = w2.heap.size + 3 := by simp
  have hbt3 := hbt0.chg (Chg.of_ext (Z := fun _ => False) Ea) id
  rw [World.size_alloc] at hbb0
  rw [World.size_alloc, World.size_alloc] at hb10
  generalize ((w2.alloc (.map #[] 0)).alloc (.cells #[.pointer (some ⟨p, 0, none⟩), .pointer (some ⟨g, 0, none⟩), .int .u64 0, .map (some w2.heap.size)] 97)).alloc (.cells #[.pointer (some ⟨w2.heap.size + 1, 0, none⟩)] 94) = w3 at *
  obtain ⟨bt, hbte⟩ : ∃ bt, bt = w2.heap.size := ⟨_, rfl⟩
  rw [← hbte] at hbt3 hbb0 hb10 hs3 hw2l ⊢
  have hb6 := hb6.ext E3
  have hb7 := hb7.ext E3
  have E03 := E02.trans E3
  have hM3 := hM.keep E03.size (fun b _ hl => E03.block b hl)
  have hP3 := hP.chg (Chg.of_ext (Z := fun _ => False) E03) (fun _ _ => id)
  have hpb3 := hpb.ext E03
  have hFl := hM.flt
  have hQl := hP.lt
  have hFb : ∀ x, w.heap.size ≤ x → ¬ F x := fun x hx h => by have := hFl x h; omega
  have hQb : ∀ x, w.heap.size ≤ x → ¬ Q x := fun x hx h => by have := hQl x h; omega
  have hfr := frames_any (bt + 1) p g k0 2 8192 0 (.map (some bt)) (.inr rfl) (by omega) (by omega) (by omega) ramT ⟨by decide, by decide⟩ (by decide) m F Q N w3 hM3 hP3 hFQ hbb0 (hFb _ (by omega)) (hQb _ (by omega))
  unfold FramesRet at hfr
  rw [(z_ram m (k := k0) (n := 2) (by omega) (by omega)).1, (z_ram m (k := k0) (n := 2) (by omega) (by omega)).2] at hfr
  obtain ⟨root, hroot⟩ : ∃ root, root = pgA k0 := ⟨_, rfl⟩
  rw [show 1073741824 + k0 * 4096 = root by rw [hroot, pgA]] at hfr
  clear hbt0 Ea E3 E02 hM3 hP3 hbte
  refine ⟨trivial, ((callsIn_wide (n := 5)).2 hfr).mono ?_⟩
  rintro e w4 ⟨rfl, F4, Q4, hM4, hP4, hC4, hFF4, hF4, hQ4, hdis4, hpp4⟩
  have hn4 : ∀ x, w.heap.size ≤ x → x < w3.heap.size → ¬ F4 x := fun x h1 h2 h => by rcases hF4 x h with h | h; exact hFb x h1 h; omega
  have hq4 : ∀ x, w.heap.size ≤ x → x < w3.heap.size → ¬ Q4 x := fun x h1 h2 h => by rcases hQ4 x h with h | h; exact hQb x h1 h; omega
  have hz4 : ∀ x, w.heap.size ≤ x → ¬ (F x ∨ Q x) := fun x h1 h => h.elim (hFb x h1) (hQb x h1)
  have hb6 := hb6.chg hC4 (hz4 _ (by omega))
  have hb7 := hb7.chg hC4 (hz4 _ (by omega))
  have hbb4 := hbb0.chg hC4 (hz4 _ (by omega))
  have hb10 := hb10.chg hC4 (hz4 _ (by omega))
  have hbt4 := hbt3.chg hC4 (hz4 _ (by omega))
  have hpb4 : Blk w4 p 72 #[.int .u64 1073741824, .int .u64 67108864, .map (some bm)] := Eq.trans hpp4 hpb3
  have hs4 := hC4.size
  have hC04 := chg_tr (Chg.of_ext E03) hC4 (fun b _ h => h)
  have c10 : w4.cell? ⟨bt + 1 + 1, 0, none⟩ = some (.pointer (some ⟨bt + 1, 0, none⟩)) := (hb10.cell 0).trans rfl
  have cr : w4.cell? ⟨bt + 1, 2, none⟩ = some (.int .u64 0) := (hbb4.cell 2).trans rfl
  have fr := hbb4.frozen 2
  clear hfr hbb0 hbt3 hC4 hpp4 hpb3 E03
  gi_wp2_with fail
  have hbb5 : Blk (w4.setCell ⟨bt + 1, 2, none⟩ (.int .u64 (pgA k0 : Int))) (bt + 1) 97 (bldCs p g (pgA k0) (.map (some bt))) := hbb4.set_ 2 (.int .u64 (pgA k0 : Int))
  have hg5 := s_grown w4 (bt + 1) 2 (.int .u64 (pgA k0 : Int))
  have hI0 : BdS w (w4.setCell ⟨bt + 1, 2, none⟩ (.int .u64 (pgA k0 : Int))) p g bm bt k0 0 S [] F Q (fun _ => False) N := by
    have hne : ∀ x, x ≠ bt + 1 → some x ≠ some (bt + 1) := fun x h e => h (Option.some.inj e)
    have hF1 := hn4 (bt + 1) (by omega) (by omega)
    have hQ1 := hq4 (bt + 1) (by omega) (by omega)
    have hc5 : Chg (fun b => b = bt + 1) w4 (w4.setCell ⟨bt + 1, 2, none⟩ (.int .u64 (pgA k0 : Int))) := Chg.grown hg5 (fun k e => (Option.some.inj e).symm)
    have hst : BSt (w4.setCell ⟨bt + 1, 2, none⟩ (.int .u64 (pgA k0 : Int))) (bt + 1) p g bm bt k0 (kk_ k0 0 2) (ma_ k0 0 2) (mb_ k0 0 2) (clrM m (zSp k0 2)) F4 Q4 N :=
      ⟨hM4.keep hg5.size (fun x hx hl => hg5.block x hl (fun e => hF1 (Option.some.inj e ▸ hx))), hP4.chg hc5 (fun x hx e => by have e : x = bt + 1 := e; exact hQ1 (e ▸ hx)), hdis4, hbb5, hbt4.chg hc5 (fun e => by have e : bt = bt + 1 := e; omega), hF1, hQ1, hn4 bt (by omega) (by omega), hq4 bt (by omega) (by omega), hpb4.chg hc5 (fun e => by have e : p = bt + 1 := e; exact hF1 (e ▸ hM4.fp))⟩
    obtain ⟨F5, Q5, t1, t2, t3, t4, t5⟩ := hst.tight
    refine ⟨⟨⟨clrM m (zSp k0 2), F5, Q5, N, t1, ⟨fun h => by omega, fun h => by omega, fun i hi => by omega⟩, Nat.le_refl _, fun x hx => ?_, fun x hx => ?_, t4, t5, fun _ h => h.elim⟩, ?_⟩, hb6.grown hg5 (hne _ (by omega)), hb7.grown hg5 (hne _ (by omega)), hb10.grown hg5 (hne _ (by omega)), Marks.nil _⟩
    · rcases hF4 x (t2 x hx) with h | h
      · exact .inl h
      · exact .inr (by omega)
    · rcases hQ4 x (t3 x hx) with h | h
      · exact .inl h
      · exact .inr (by omega)
    · exact chg_tr hC04 hc5 (fun x hx e => by have e : x = bt + 1 := e; omega)
  have hbm : bm < w3.heap.size := by
    obtain ⟨D, pg, h⟩ := hM.bm hpb
    have := hFl _ h.fm
    omega
  have hs5 : w3.heap.size ≤ (w4.setCell ⟨bt + 1, 2, none⟩ (.int .u64 (pgA k0 : Int))).heap.size := by simp; omega
  clear hroot hb6 hb7 hbb4 hb10 hbt4 hpb4 hC04 c10 cr fr hbb5 hg5 hM4 hP4 hFF4 hF4 hQ4 hdis4 hn4 hq4 hz4
  generalize w4.setCell ⟨bt + 1, 2, none⟩ (.int .u64 (pgA k0 : Int)) = W0 at *
  refine wpIn_loop (fun a' wr => ∃ (k : Nat) (Ds : List Nat), k ≤ n ∧ BdS w wr p g bm bt k0 (sumS (S.take k) / 4096) S Ds F Q (fun _ => False) (N + 24 * (sumS (S.take k) / 4096)) ∧ (∀ D ∈ Ds, bt + 3 ≤ D) ∧ w3.heap.size ≤ wr.heap.size ∧
    ∃ u14 u46 u47 u48 u49 u50 u60 : Value, a' = { tmps := #[.pointer (some ⟨p, 0, none⟩), .pointer (some ⟨g, 0, none⟩), .slice (some ⟨b, off, none⟩) n c, undef, undef, undef, .pointer (some ⟨w.heap.size, 0, none⟩), .pointer (some ⟨w.heap.size + 1, 0, none⟩), .int .i64 z, .int .i64 0, .pointer (some ⟨bt + 1 + 1, 0, none⟩), .int .u64 (pgA k0 : Int), .int .i64 0, undef, u14, undef, undef, undef, .tuple #[.int .i64 z, .int .i64 0], .slice (some ⟨b, off, none⟩) n c, .tuple #[.int .i64 z, .int .i64 0], .int .i64 z, .int .i64 0, .int .i64 0, .bool false, undef, .pointer (some ⟨p, 0, none⟩), .pointer (some ⟨g, 0, none⟩), .map (some bt), .agg #[.pointer (some ⟨p, 0, none⟩), .pointer (some ⟨g, 0, none⟩), .int .u64 0, .map (some bt)], .pointer (some ⟨bt + 1, 0, none⟩), .tuple #[.int .u64 (pgA k0 : Int), .int .i64 0], .pointer (some ⟨bt + 1, 0, none⟩), .tuple #[.int .u64 (pgA k0 : Int), .int .i64 0], .int .u64 (pgA k0 : Int), .int .i64 0, .int .i64 0, .bool false, undef, .pointer (some ⟨bt + 1, 0, none⟩), .int .u64 (pgA k0 : Int), .pointer (some ⟨bt + 1, 0, none⟩), .pointer (some ⟨bt + 1, 2, none⟩), .slice (some ⟨b, off, none⟩) n c, .int .i64 (n : Int), .int .i64 (k : Int), u46, u47, u48, u49, u50, undef, undef, undef, undef, undef, undef, undef, undef, undef, u60, undef], defers := Ds.map mark }) (fun a' _ => n - (intOf (a'.tmps[45]?.getD undef)).toNat) ?start ?round
  case start => exact ⟨0, [], Nat.zero_le _, by simpa [sumS] using hI0, fun _ h => (by cases h), hs5, _, _, _, _, _, _, _, rfl⟩
  case round =>
    rintro _ wr ⟨k, Ds, hk, hI, hlo, hwl, u14, u46, u47, u48, u49, u50, u60, rfl⟩
    by_cases hlt : k < n
    · obtain ⟨s, hs⟩ : ∃ s, S[k]? = some s := ⟨_, List.getElem?_eq_getElem (by rw [HLN.out]; exact hlt)⟩
      obtain ⟨hsp1, hsp2⟩ := HS.out.pg s (List.mem_of_getElem? hs)
      have hpg4 : ∀ s ∈ S, s.size % 4096 = 0 := fun s hs => by
        have := (HS.out.pg s hs).1
        simp only [Sp.pages, decide_eq_true_eq] at this; omega
      have hst := sumS_take S k s hs
      have hle := sumS_le S (k + 1)
      have hmk := mapsFrom_get S 0 k
      rw [hs] at hmk
      simp only [Option.map_some, Nat.zero_add] at hmk
      have hbw : b < w.heap.size := by
        obtain ⟨a, e, hb, _⟩ := hR.cell (k * 5) _ (pcells_get _ k _ hmk 0 (by omega))
        cases e; exact hb
      have hrng := range_chg (rd_map hR k _ hmk) (hI.bd.chg.block b hbw (fun h => h.elim hbF hbQ))
      obtain ⟨x, hx⟩ : ∃ x, x = sumS (S.take k) := ⟨_, rfl⟩
      rw [← hx] at hst hrng
      have hx4 : x % 4096 = 0 := by rw [hx]; exact sumS_mod _ (fun y hy => hpg4 y (List.mem_of_mem_take hy))
      obtain ⟨j0, hj0⟩ : ∃ j0, j0 = sumS (S.take k) / 4096 := ⟨_, rfl⟩
      have hpas := pasOf_at S hpg4 k s hs
      rw [← hj0] at hI hpas
      have hxj : x = 4096 * j0 := by rw [hj0, ← hx]; omega
      have hxs : x + s.size < 2097152 := by omega
      obtain ⟨q, hq⟩ : ∃ q, s.size = 4096 * q := ⟨s.size / 4096, by have := hpg4 s (List.mem_of_getElem? hs); omega⟩
      have hj1 : sumS (S.take (k + 1)) / 4096 = j0 + q := by rw [hst]; omega
      have hsb : s.base % 4096 = 0 := by simp only [Sp.pages, decide_eq_true_eq] at hsp1; omega
      have HQ := Lib.hid hq
      have HJ1 := Lib.hid hj1
      have HXJ := Lib.hid hxj
      have HPAS : Hid (∀ i, i < q → pasOf S (j0 + i) = s.base + 4096 * i) := Lib.hid (fun i hi => hpas i (by omega))
      have hq5 : j0 + q < 512 := by omega
      simp only [Mp.cells] at hrng
      have g0 := Blk.new wr 91 (Mp.cells ⟨x, s.base, s.size⟩)
      have hI1 := hI.ext ((Ext.refl _).alloc (.cells (Mp.cells ⟨x, s.base, s.size⟩) 91))
      have hs1' : (wr.alloc (.cells (Mp.cells ⟨x, s.base, s.size⟩) 91)).heap.size = wr.heap.size + 1 := by simp
      have hDl := hI.mks.lt
      simp only [Mp.cells] at g0 hI1 hs1'
      have r0 : wr.cell? ⟨b, off + k * 5, none⟩ = some (.int .u64 (x : Int)) := hrng 0 _ rfl
      have r1 : wr.cell? ⟨b, off + k * 5 + 1, none⟩ = some (.int .u64 (s.base : Int)) := hrng 1 _ rfl
      have r2 : wr.cell? ⟨b, off + k * 5 + 2, none⟩ = some (.int .u64 (s.size : Int)) := hrng 2 _ rfl
      have r3 : wr.cell? ⟨b, off + k * 5 + 3, none⟩ = some (.int .i64 3) := hrng 3 _ rfl
      have r4 : wr.cell? ⟨b, off + k * 5 + 4, none⟩ = some (.int .i64 0) := hrng 4 _ rfl
      clear hst hx hle hmk hs hq hrng hj0 hpas hj1 hxj hI
      gi_wp2_with fail
      refine ⟨trivial, (pieces_in Fence.wide 5 trivial rfl ⟨x, s.base, s.size⟩ _).mono ?_⟩
      rintro e w' ⟨rfl, rfl⟩
      simp only [Mp.cells]
      obtain ⟨b14, hb14⟩ : ∃ b14, b14 = wr.heap.size := ⟨_, rfl⟩
      rw [← hb14] at g0 hs1' hDl hwl ⊢
      generalize wr.alloc (.cells #[.int .u64 (x : Int), .int .u64 (s.base : Int), .int .u64 (s.size : Int), .int .i64 3, .int .i64 0] 91) = W1 at *
      have hIe := hI1.ext ((Ext.refl W1).alloc (.cells (Mp.cells ⟨x, s.base, s.size⟩) 91))
      have hI2 := BdS.mk (hI1.bd.withX ((Ext.refl W1).alloc (.cells (Mp.cells ⟨x, s.base, s.size⟩) 91))) hIe.b6 hIe.b7 hIe.b10 hIe.mks
      have hb3 := Blk.new W1 91 (Mp.cells ⟨x, s.base, s.size⟩)
      have hs2' : (W1.alloc (.cells (Mp.cells ⟨x, s.base, s.size⟩) 91)).heap.size = W1.heap.size + 1 := by simp
      clear hIe
      simp only [Mp.cells] at hI2 hb3 hs2'
      generalize W1.alloc (.cells #[.int .u64 (x : Int), .int .u64 (s.base : Int), .int .u64 (s.size : Int), .int .i64 3, .int .i64 0] 91) = W2 at *
      obtain ⟨pb, hpb'⟩ : ∃ pb, pb = W1.heap.size := ⟨_, rfl⟩
      rw [← hpb'] at hI2 hb3 hs2' hs1' ⊢
      have hs1'' : b14 < pb := by omega
      clear hb14 hpb' hI1 g0 r0 r1 r2 r3 r4 hs1'
      gi_wp2_with fail
      refine wpIn_rangeFunc_mut rfl (by omega) (gf := 62) (lb := #[.pointer (some ⟨pb, 0, none⟩)]) rfl trivial (enters_of Tryz.func62 (by kernel_rfl) rfl)
        (Zm := fun r => r = pb) (fun r hr => by subst hr; omega) (pieces_stops pb ⟨x, s.base, s.size⟩ q HQ.out (by omega) (by simp only; omega) (by simp only; omega) W2 hb3) (fun h k => h.trans k) (fun W l o o' _ h h1 _ => KpM.put h h1) (Below.refl _ _) (fun _ => rfl)
        (fun pre W => BdS w W p g bm bt k0 (j0 + pre.length) S Ds F Q (fun b => b = pb) (N + 24 * (j0 + pre.length)) ∧ W2.heap.size ≤ W.heap.size) (fun cc pre W => False)
        (fun s W W' row hs hg hr => ⟨hs.1.grown hg hr (by omega) (by omega) (by omega) (fun D hD => by have := hDl D hD; omega), Nat.le_trans hs.2 hg.size⟩)
        (fun cc s W W' row hs hg hr => hs) (fun s A B r hs hg hr => ⟨hs.1.far hg hr (by omega) (by omega) (fun D hD => by have := hDl D hD; omega), Nat.le_trans hs.2 hg.size⟩) ⟨hI2, Nat.le_refl _⟩
        (fun y a' W => ∃ g16, Blk W g16 91 (Mp.cells y.1) ∧ a' = { tmps := #[.pointer (some ⟨p, 0, none⟩), .pointer (some ⟨g, 0, none⟩), .slice (some ⟨b, off, none⟩) n c, undef, undef, undef, .pointer (some ⟨w.heap.size, 0, none⟩), .pointer (some ⟨w.heap.size + 1, 0, none⟩), .int .i64 z, .int .i64 0, .pointer (some ⟨bt + 1 + 1, 0, none⟩), .int .u64 (pgA k0 : Int), .int .i64 0, undef, .pointer (some ⟨b14, 0, none⟩), .int .i64 3, .pointer (some ⟨g16, 0, none⟩), undef, .tuple #[.int .i64 z, .int .i64 0], .slice (some ⟨b, off, none⟩) n c, .tuple #[.int .i64 z, .int .i64 0], .int .i64 z, .int .i64 0, .int .i64 0, .bool false, undef, .pointer (some ⟨p, 0, none⟩), .pointer (some ⟨g, 0, none⟩), .map (some bt), .agg #[.pointer (some ⟨p, 0, none⟩), .pointer (some ⟨g, 0, none⟩), .int .u64 0, .map (some bt)], .pointer (some ⟨bt + 1, 0, none⟩), .tuple #[.int .u64 (pgA k0 : Int), .int .i64 0], .pointer (some ⟨bt + 1, 0, none⟩), .tuple #[.int .u64 (pgA k0 : Int), .int .i64 0], .int .u64 (pgA k0 : Int), .int .i64 0, .int .i64 0, .bool false, undef, .pointer (some ⟨bt + 1, 0, none⟩), .int .u64 (pgA k0 : Int), .pointer (some ⟨bt + 1, 0, none⟩), .pointer (some ⟨bt + 1, 2, none⟩), .slice (some ⟨b, off, none⟩) n c, .int .i64 (n : Int), .int .i64 (k : Int), .bool true, .pointer (some ⟨b, off + k * 5, none⟩), .agg #[.int .u64 (x : Int), .int .u64 (s.base : Int), .int .u64 (s.size : Int), .int .i64 3, .int .i64 0], .agg #[.int .u64 (x : Int), .int .u64 (s.base : Int), .int .u64 (s.size : Int), .int .i64 3, .int .i64 0], .func (.func 62) #[] #[.pointer (some ⟨pb, 0, none⟩)], .int .i64 3, .agg (Mp.cells y.1), undef, undef, undef, undef, undef, undef, undef, u60, undef], defers := [] })
        (fun y a' _ W W' row hs hg hr => by obtain ⟨g8, h1, h2⟩ := hs; exact ⟨g8, blk_keptS h1 hg (fun r e => (hr r e).2), h2⟩) ?assign ?body ?done ?stop
      case assign =>
        rintro ly pre y W K' hI hK
        simp only [pcE, pcEncs, Mp.cells]
        gi_wp2
        refine hK _ _ (KeepsOthers.from (KeepsOthers.alloc _ _) _) (KpM.chg (Z := fun _ => False) (Chg.of_ext ((Ext.refl W).alloc _)) (fun _ h => h.elim)) ⟨hI.1.ext ((Ext.refl _).alloc _), by have := hI.2; simp; omega⟩ ⟨W.heap.size, Blk.new W _ _, rfl⟩
      case stop =>
        rintro D c2 pre W hD hpre h hK
        exact h.elim
      case done =>
        rintro D ys W hD hys ⟨hI, hWl⟩ hK
        have hyl : ys.length = q := by rw [← vals_length, hys, upto_length]
        rw [hyl] at hI
        gi_wp2_with fail
        refine ⟨⟨k + 1, D :: Ds, by omega, ⟨?_, hI.b6, hI.b7, hI.b10, hI.mks.cons hK (fun h => by have := hDl D h; omega)⟩, fun D' h => by rcases List.mem_cons.1 h with rfl | h; omega; exact hlo D' h, by omega, _, _, _, _, _, _, _, rfl⟩, ?_⟩
        · rw [HJ1.out]; exact hI.bd.noX
        · simp [intOf]; omega
      case body =>
        rintro ly pre y a' wr2 hl ⟨r, hr⟩ ⟨hI, hWl⟩ ⟨g16, hb16, rfl⟩ hlen hyk
        have hpq : pre.length < q := by
          obtain ⟨jj, h1, h2⟩ := y.2
          rw [hyk] at h2
          simp only [pcM, Mp.mk.injEq] at h2
          omega
        have hyv : y.1 = ⟨4096 * (j0 + pre.length), pasOf S (j0 + pre.length), 4096⟩ := by
          rw [hyk, HPAS.out _ hpq]
          simp only [pcM, Mp.mk.injEq, and_true]
          have := HXJ.out
          omega
        have hpa4 : pasOf S (j0 + pre.length) % 4096 = 0 := by rw [HPAS.out _ hpq]; omega
        have hpal : pasOf S (j0 + pre.length) < 1099511627776 := by rw [HPAS.out _ hpq]; have := HQ.out; omega
        rw [hyv] at hb16 ⊢
        obtain ⟨j, hj⟩ : ∃ j, j = j0 + pre.length := ⟨_, rfl⟩
        obtain ⟨N1, hN1⟩ : ∃ N1, N1 = N + 24 * (j0 + pre.length) := ⟨_, rfl⟩
        rw [← hN1] at hI
        rw [← hj] at hI hpa4 hpal hb16 ⊢
        have hj5 : j < 512 := by omega
        have hN1' : N1 + 24 = N + 24 * (j0 + (pre ++ [y]).length) := by rw [List.length_append, hN1]; simp; omega
        have hj' : j + 1 = j0 + (pre ++ [y]).length := by rw [List.length_append, hj]; simp; omega
        have hstep := BdI.step (B := pb + 1) hI.bd hj5 hk0 hpa4 hpal (by rw [hN1]; unfold maxLen; omega) (by omega) (by omega) hFl hQl (by omega) (by omega) (by omega) (fun b hb => by subst hb; omega)
        have HJ' := Lib.hid hj'
        have HN' := Lib.hid hN1'
        have HR := Lib.hid hr
        have HB := Lib.hid (show w.heap.size + 2 ≤ bt ∧ bt + 3 ≤ pb from ⟨by omega, by omega⟩)
        obtain ⟨xx, hxx⟩ : ∃ xx, xx = 4096 * j := ⟨_, rfl⟩
        obtain ⟨yy, hyy⟩ : ∃ yy, yy = pasOf S j := ⟨_, rfl⟩
        rw [← hxx, ← hyy] at hstep hb16 ⊢
        have c10 : wr2.cell? ⟨bt + 1 + 1, 0, none⟩ = some (.pointer (some ⟨bt + 1, 0, none⟩)) := (hI.b10.cell 0).trans rfl
        have d0 : wr2.cell? ⟨g16, 0, none⟩ = some (.int .u64 (xx : Int)) := (hb16.cell 0).trans rfl
        have d1 : wr2.cell? ⟨g16, 1, none⟩ = some (.int .u64 (yy : Int)) := (hb16.cell 1).trans rfl
        have d2 : wr2.cell? ⟨g16, 2, none⟩ = some (.int .u64 4096) := (hb16.cell 2).trans rfl
        have d3 : wr2.cell? ⟨g16, 3, none⟩ = some (.int .i64 3) := (hb16.cell 3).trans rfl
        have d4 : wr2.cell? ⟨g16, 4, none⟩ = some (.int .i64 0) := (hb16.cell 4).trans rfl
        have e4 : ((4096 : Nat) : Int) = 4096 := rfl
        simp only [Mp.cells, e4] at hstep
        clear e4 hyv hyk hpq hj hN1 hj' hN1' hr hxx hyy hpa4 hpal
        gi_wp2_with fail
        refine ⟨trivial, ((callsIn_wide (n := 3)).2 hstep).mono ?_⟩
        rintro e W6 ⟨rfl, hbd6, hkf, hkm, hmk6, hbx6, hsz6⟩
        gi_wp2_with fail
        have hB := HB.out
        refine ⟨hs2'.symm ▸ hkf, hkm, ⟨by rw [← HN'.out, ← HJ'.out]; exact hbd6, Eq.trans (hbx6 _ (Nat.le_refl _) (by omega) (by omega)) hI.b6, Eq.trans (hbx6 _ (by omega) (by omega) (by omega)) hI.b7, Eq.trans (hbx6 _ (by omega) (by omega) (by omega)) hI.b10, hI.mks.nd, fun D hD => hmk6 D _ (hI.mks.at_ D hD)⟩, Nat.le_trans hWl hsz6⟩
    · obtain rfl : k = n := by omega
      have hfin : S.take k = S := List.take_of_length_le (by rw [HLN.out]; exact Nat.le_refl _)
      rw [hfin] at hI
      have c6 : wr.cell? ⟨w.heap.size, 0, none⟩ = some (.int .u64 0) := (hI.b6.cell 0).trans rfl
      have f6 := hI.b6.frozen 0
      have c7 : wr.cell? ⟨w.heap.size + 1, 0, none⟩ = some (.int .i64 0) := (hI.b7.cell 0).trans rfl
      have hc7 : (wr.setCell ⟨w.heap.size, 0, none⟩ (.int .u64 (pgA k0 : Int))).cell? ⟨w.heap.size + 1, 0, none⟩ = some (.int .i64 0) := ((hI.b7.far (p := ⟨w.heap.size, 0, none⟩) (show w.heap.size + 1 ≠ w.heap.size by omega) _).cell 0).trans rfl
      have f7 := (hI.b7.far (p := ⟨w.heap.size, 0, none⟩) (show w.heap.size + 1 ≠ w.heap.size by omega) (.int .u64 (pgA k0 : Int))).frozen 0
      gi_wp2_with fail
      obtain ⟨⟨m', F', Q', N', h1, h2, h3, h4, h5, h6, h7, _⟩, hC⟩ := hI.bd
      have hmkl := hI.mks.lt
      have hg1 : wr.grownBy (wr.setCell ⟨w.heap.size, 0, none⟩ (.int .u64 (pgA k0 : Int))) (some w.heap.size) := s_grown wr w.heap.size 0 (.int .u64 (pgA k0 : Int))
      have hg2 : (wr.setCell ⟨w.heap.size, 0, none⟩ (.int .u64 (pgA k0 : Int))).grownBy ((wr.setCell ⟨w.heap.size, 0, none⟩ (.int .u64 (pgA k0 : Int))).setCell ⟨w.heap.size + 1, 0, none⟩ (.int .i64 0)) (some (w.heap.size + 1)) := s_grown _ (w.heap.size + 1) 0 (.int .i64 0)
      have hb6f := (hI.b6.set_ 0 (.int .u64 (pgA k0 : Int))).grown hg2 (fun e => by have := Option.some.inj e; omega)
      have hb7f := (hI.b7.grown hg1 (fun e => by have := Option.some.inj e; omega)).set_ 0 (.int .i64 0)
      have hmkf := (hI.mks.grown hg1 (fun r e h => by have := Option.some.inj e; have := hlo r h; omega)).grown hg2 (fun r e h => by have := Option.some.inj e; have := hlo r h; omega)
      have hCf : Chg (fun x => x = w.heap.size ∨ x = w.heap.size + 1) wr ((wr.setCell ⟨w.heap.size, 0, none⟩ (.int .u64 (pgA k0 : Int))).setCell ⟨w.heap.size + 1, 0, none⟩ (.int .i64 0)) :=
        (Chg.grown hg1 (fun k e => .inl (Option.some.inj e).symm)).trans (Chg.grown hg2 (fun k e => .inr (Option.some.inj e).symm))
      clear c6 f6 c7 hc7 f7 hg1 hg2
      generalize (wr.setCell ⟨w.heap.size, 0, none⟩ (.int .u64 (pgA k0 : Int))).setCell ⟨w.heap.size + 1, 0, none⟩ (.int .i64 0) = Wf at *
      refine leaves_marks Ds Wf hmkf fun w' hw' => ?_
      obtain ⟨e1, e2, e3, e4, e5⟩ := hw'
      have hZ : Chg (fun x => (x = w.heap.size ∨ x = w.heap.size + 1) ∨ x ∈ Ds) wr w' :=
        (hCf.mono (fun _ h => .inl h)).trans ⟨e1, e2, e3, by omega, fun x _ hn => e5 x (fun h => hn (.inr h))⟩
      have hnd : ∀ D ∈ Ds, ¬ CellN wr D := fun D hD ⟨cs, t, f, e, _⟩ => by rw [hI.mks.at_ D hD] at e; cases e
      have hnF : ∀ x, F' x → ¬ ((x = w.heap.size ∨ x = w.heap.size + 1) ∨ x ∈ Ds) := fun x hx hz => by
        rcases hz with hz | hz
        · rcases h4 x hx with h | h
          · have := hFl x h; omega
          · omega
        · rcases h6 x hx with e | e
          · obtain ⟨D, pg, hP⟩ := h1.pm.bm h1.pb
            obtain ⟨es, c, e2, _⟩ := hP.own
            have := hI.mks.at_ x hz
            rw [e, e2] at this; cases this
          · exact hnd x hz e
      have hnQ : ∀ x, Q' x → ¬ ((x = w.heap.size ∨ x = w.heap.size + 1) ∨ x ∈ Ds) := fun x hx hz => by
        rcases hz with hz | hz
        · rcases h5 x hx with h | h
          · have := hQl x h; omega
          · omega
        · exact hnd x hz (h7 x hx)
      have hb6w : w'.cell? ⟨w.heap.size, 0, none⟩ = some (.int .u64 (pgA k0 : Int)) := (World.cell?_of_block (e5 w.heap.size (fun h => by have := hlo _ h; omega))).trans ((hb6f.cell 0).trans rfl)
      have hb7w : w'.cell? ⟨w.heap.size + 1, 0, none⟩ = some (.int .i64 0) := (World.cell?_of_block (e5 (w.heap.size + 1) (fun h => by have := hlo _ h; omega))).trans ((hb7f.cell 0).trans rfl)
      have hj0 : 0 < sumS S / 4096 := by omega
      refine ⟨_, results_cells2 rfl _ _ ⟨w.heap.size, 0, none⟩ ⟨w.heap.size + 1, 0, none⟩ rfl rfl hb6w hb7w (by kernel_rfl) (by kernel_rfl), rfl, m', F', Q', N', h1.pm.keep hZ.size (fun x hx hl => hZ.block x hl (hnF x hx)), h1.pb.chg hZ (hnF p h1.pm.fp), ?_, h1.dis, ⟨h2.one (.inl hj0), h2.two (.inl hj0), h2.leaf⟩, by omega, chg_tr hC hZ (fun x hx hz => ?_), fun x hx => (h4 x hx).imp id (fun h => by omega), fun x hx => (h5 x hx).imp id (fun h => by omega)⟩
      · have e : kk_ k0 (sumS S / 4096) 2 = k0 + 4 := by unfold kk_; rw [if_neg (by omega)]
        have := h1.po
        rw [e] at this
        exact this.chg hZ hnQ
      · rcases hz with hz | hz
        · omega
        · have := hlo x hz; omega
end Go.Proofs.YtpellkblaeeopaaGreatDoor
