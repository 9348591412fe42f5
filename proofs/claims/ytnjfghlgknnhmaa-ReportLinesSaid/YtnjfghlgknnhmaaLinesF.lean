/-
  Walk: report's page.manifest, the first line.
-/
import Derived.Test.YtnjfghlgknnhmaaLinesE
namespace Go.Proofs.Ytnjfghlgknnhmaa
open Go.RowKit

theorem Pg.drew {G : Nat} {ls : List (List UInt8)} {w : World} (h : Pg G ls w) : Pg G ls w.drew := by
  obtain ⟨A, k, h1, h2⟩ := h
  exact ⟨A, k, h1.drew, h2.drew⟩
theorem flat_str (ws : List (List UInt8)) : flat (ws.map strV) = ws.map strV := by
  induction ws with
  | nil => rfl
  | cons a l ih => rw [List.map_cons, flat, List.flatMap_cons]; rw [flat] at ih; rw [ih]; rfl
theorem Pg.lt {G : Nat} {ls : List (List UInt8)} {w : World} (h : Pg G ls w) : G < w.heap.size := by
  obtain ⟨A, k, h1, _⟩ := h
  exact h1.lt
theorem Pg.own1 {G : Nat} {ls : List (List UInt8)} {w w' : World} (h : Pg G ls w) (c : Chg (fun b => b = w.heap.size) w w') : Pg G ls w' := by
  obtain ⟨A, k, h1, h2⟩ := h
  exact ⟨A, k, h1.chg c (fun e => by have := h1.lt; omega), own_chg h2 c (fun j hj e => by have := (own_some h2 hj).2; omega)⟩
theorem run_strs (w : World) (n : Nat) (ws : List (List UInt8)) (parts : Array (Nat × Value)) (hp : parts.toList = (ws.map strV).zipIdx.map fun x => (x.2, x.1)) (h0 : 0 < n) (h1 : n ≤ 1000) (hn : (ws.map strV).length = n) :
    (Instr.buildSlice 80 n parts).run Try.prog w = .ok (.slice (some ⟨w.heap.size, 0, none⟩) n n) (w.alloc (.cells (ws.map strV).toArray 9)) := by
  have := run_buildSlice_all (P := Try.prog) w elS n parts (ws.map strV) hp hn h0 (by omega) (by intro v hv; simp at hv; obtain ⟨s, _, rfl⟩ := hv; rfl)
  rw [flat_str] at this
  exact this

def manW (ver : Nat) (fr : Int) : List (List UInt8) := [[108, 97, 117, 110, 99, 104, 101, 100], [118, 101, 114, 115, 105, 111, 110], digStr (ver : Nat), [102, 114, 97, 109, 101, 115], digStr fr]
theorem digStr_len (x : Int) (h : inI x) : (digStr x).length ≤ 1000 := by have := digStr_length x h.1 h.2; omega
theorem manW_len (ver : Nat) (fr : Int) (hv : ver < 4294967296) (hf : inI fr) : ∀ s ∈ manW ver fr, s.length ≤ 1000 := by
  intro s hs
  simp only [manW, List.mem_cons, List.not_mem_nil, or_false] at hs
  have h1 := digStr_len (ver : Nat) ⟨by omega, by omega⟩
  have h2 := digStr_len fr hf
  rcases hs with rfl | rfl | rfl | rfl | rfl <;> first | assumption | (simp)

structure Rec where
  kind : Int
  idx : Int
  err : Int
  dig : List UInt8
structure Rec.Ok (r : Rec) : Prop where
  kind : inI r.kind
  idx : inI r.idx
  err : inI r.err
  dig : r.dig.length = 32
def recCells (r : Rec) : List Value := [.int .i64 r.kind, .int .i64 r.idx, .int .i64 r.err] ++ bcells r.dig
theorem recCells_length (r : Rec) (h : r.Ok) : (recCells r).length = 35 := by simp [recCells, bcells_length, h.dig]
theorem recCells_one (r : Rec) : ∀ v ∈ (recCells r).toArray.toList, v.oneCell' = true := by
  intro v hv
  simp only [recCells, List.mem_append, List.mem_cons, List.not_mem_nil, or_false] at hv
  rcases hv with (rfl | rfl | rfl) | hv
  · rfl
  · rfl
  · rfl
  · exact bcells_one _ v hv
theorem rec_dig {w : World} {g : Nat} {t : TypeId} {r : Rec} (h : Blk w g t (recCells r).toArray) : w.rangeAt g 3 (bcells r.dig) := fun j v hv => by
  rw [h.cell, List.getElem?_toArray, recCells, List.getElem?_append_right (by simp)]
  simpa using hv
def recW (r : Rec) : List (List UInt8) := [[108, 111, 103], digStr r.idx, kindStr r.kind, nameOf r.err, hexL r.dig]
theorem recW_len (r : Rec) (h : r.Ok) : ∀ s ∈ recW r, s.length ≤ 1000 := by
  intro s hs
  simp only [recW, List.mem_cons, List.not_mem_nil, or_false] at hs
  have h1 := digStr_len r.idx h.idx
  have h2 := hexL_length r.dig
  have h3 := nameOf_len r.err h.err
  have h4 := kindStr_len r.kind
  rw [h.dig] at h2
  rcases hs with rfl | rfl | rfl | rfl | rfl <;> first | assumption | omega | (simp)
theorem reg_loadRangeL {P : Program} {o : Oper} {a : Act} {w : World} (ty : TypeId) (t : Tmp) (ho : o.op = .load ty (.tmp t)) {b off : Nat} {cs : List Value} (he : a.tmps[t]?.getD undef = .pointer (some ⟨b, off, none⟩))
    (h : w.rangeAt b off cs) {d : TypeDesc} (hu : P.underlying ty = some d) (hd : d.isRow = true) (hi : (P.info? ty).map (·.size) = some cs.toArray.size) :
    (execOp a.eval o).run P w = .ok (.value (.agg cs.toArray)) w := by
  have := run_loadAt_mid (P := P) w b off ty cs d h hu hd (by simpa using hi)
  simp [execOp, ho, Act.eval, he, this]
theorem range_row {α : Type} (f : α → List Value) (s : Nat) {w : World} {b : Nat} : ∀ (xs : List α) (off : Nat), (∀ x ∈ xs, (f x).length = s) → w.rangeAt b off (xs.map f).flatten → ∀ k (hk : k < xs.length), w.rangeAt b (off + k * s) (f xs[k])
  | [], _, _, _, k, hk => by simp at hk
  | a :: l, off, hf, h, 0, hk => by
    intro j v hv
    have hv : (f a)[j]? = some v := hv
    have hj := (List.getElem?_eq_some_iff.1 hv).1
    have := h j v (by rw [List.map_cons, List.flatten_cons, List.getElem?_append_left hj]; exact hv)
    simpa using this
  | a :: l, off, hf, h, k + 1, hk => by
    have ha := hf a (by simp)
    have hl : w.rangeAt b (off + s) (l.map f).flatten := fun j v hv => by
      have := h (s + j) v (by rw [List.map_cons, List.flatten_cons, List.getElem?_append_right (by omega), ha]; simpa using hv)
      rw [show off + s + j = off + (s + j) by omega]; exact this
    have := range_row f s l (off + s) (fun x hx => hf x (by simp [hx])) hl k (by simpa using hk)
    rw [show off + (k + 1) * s = off + s + k * s by rw [Nat.succ_mul]; omega]
    exact this
structure Gst where
  g : Int
  ver : Nat
  vt : Nat
  en : Nat
  dt : Nat
  cpus : Nat
structure Gst.Ok (r : Gst) : Prop where
  g : inI r.g
  ver : r.ver < 4294967296
  vt : r.vt < 18446744073709551616
  en : r.en < 18446744073709551616
  dt : r.dt < 18446744073709551616
  cpus : r.cpus < 4294967296
def gstCells (r : Gst) : List Value := [.int .i64 r.g, .int .u32 (r.ver : Nat), .int .u64 (r.vt : Nat), .int .u64 (r.en : Nat), .int .u64 (r.dt : Nat), .int .u32 (r.cpus : Nat)]
theorem gstCells_one (r : Gst) : ∀ v ∈ (gstCells r).toArray.toList, v.oneCell' = true := by
  intro v hv
  simp only [gstCells, List.mem_cons, List.not_mem_nil, or_false] at hv
  rcases hv with rfl | rfl | rfl | rfl | rfl | rfl <;> rfl
def gstW (r : Gst) : List (List UInt8) := [[103, 117, 101, 115, 116], digStr r.g, [118, 101, 114, 115, 105, 111, 110], digStr (r.ver : Nat), [118, 116, 116, 98, 114], wideStr r.vt, [101, 110, 116, 114, 121], wideStr r.en, [100, 116, 98], wideStr r.dt, [99, 112, 117, 115], wideStr r.cpus]
theorem wideStr_len (x : Nat) (h : x < 18446744073709551616) : (wideStr x).length ≤ 1000 := by have := hexStr_len h; simp only [wideStr, List.length_append]; simp; omega
theorem gstW_len (r : Gst) (h : r.Ok) : ∀ s ∈ gstW r, s.length ≤ 1000 := by
  intro s hs
  simp only [gstW, List.mem_cons, List.not_mem_nil, or_false] at hs
  have h1 := digStr_len r.g h.g
  have h2 := digStr_len (r.ver : Nat) ⟨by omega, by have := h.ver; omega⟩
  have h3 := wideStr_len r.vt h.vt
  have h4 := wideStr_len r.en h.en
  have h5 := wideStr_len r.dt h.dt
  have h6 := wideStr_len r.cpus (Nat.lt_of_lt_of_le h.cpus (by decide))
  rcases hs with rfl | rfl | rfl | rfl | rfl | rfl | rfl | rfl | rfl | rfl | rfl | rfl <;> first | assumption | (simp)
def regW (k : Nat) (d : List UInt8) : List (List UInt8) := [[114, 101, 103, 105, 115, 116, 101, 114], digStr (k : Nat), hexL d]
theorem regW_len (k : Nat) (d : List UInt8) (hk : k ≤ 1000) (hd : Hid (d.length = 32)) : ∀ s ∈ regW k d, s.length ≤ 1000 := by
  intro s hs
  simp only [regW, List.mem_cons, List.not_mem_nil, or_false] at hs
  have h1 := digStr_len (k : Nat) ⟨by omega, by omega⟩
  have h2 := hexL_length d
  rw [hd.out] at h2
  rcases hs with rfl | rfl | rfl <;> first | assumption | omega | (simp)
/-- a node out of nodes that lie one behind the other -/
def nodeAt (D : List UInt8) (k : Nat) : List UInt8 := (D.drop (k * 32)).take 32
theorem nodeAt_len (D : List UInt8) (k : Nat) (h : k * 32 + 32 ≤ D.length) : (nodeAt D k).length = 32 := by rw [nodeAt, List.length_take, List.length_drop]; omega
def regLines (D : List UInt8) (k : Nat) : List (List UInt8) := (List.range k).map fun i => joinWs (regW i (nodeAt D i))
theorem regLines_succ (D : List UInt8) (k : Nat) : regLines D (k + 1) = regLines D k ++ [joinWs (regW k (nodeAt D k))] := by simp [regLines, List.range_succ]
theorem regLines_len (D : List UInt8) (k : Nat) : (regLines D k).length = k := by simp [regLines]
theorem isAggN (W : World) : (isAgg 29).run Try.prog W = .ok true W := by kernel_rfl
theorem sizeN (W : World) : (sizeOf 29).run Try.prog W = .ok 32 W := by kernel_rfl
theorem node2Index (D : List UInt8) (k : Nat) (hk : k < 2) (W : World) :
    (Instr.index 71 (.agg (bcells D).toArray) (.int .i64 (k : Int))).run Try.prog W = .ok (.agg (bcells (nodeAt D k)).toArray) W := by
  have h1 : (0 : Int) ≤ k ∧ (k : Int) < ((2 : Nat) : Int) := by omega
  have h2 : (bcells D).toArray.extract (k * 32) (k * 32 + 32) = (bcells (nodeAt D k)).toArray := by
    rw [List.extract_toArray, List.extract_eq_take_drop, show k * 32 + 32 - k * 32 = 32 by omega]
    simp [bcells, nodeAt, List.map_drop, List.map_take]
  simp only [Instr.index, asIntOf, part, Sem.run_bind, Sem.run_pure, Result.andThen_ok, run_underlying Try.underlying71, if_pos h1, sizeN, isAggN, Int.toNat_natCast, h2, if_true]

def manLines (ver : Nat) (fr : Int) (D : List UInt8) (log : List Rec) (gst : List Gst) : List (List UInt8) := [joinWs (manW ver fr)] ++ (regLines D 2 ++ ((log.map fun r => joinWs (recW r)) ++ gst.map fun r => joinWs (gstW r)))

set_option maxRecDepth 100000 in
set_option maxHeartbeats 4000000 in
theorem manifest_any (G : Nat) (ls : List (List UInt8)) (M : Array Value) (ver : Nat) (fr : Int) (m0 : M[0]? = some (.int .u32 (ver : Nat))) (m4 : M[4]? = some (.int .i64 fr)) (D : List UInt8) (hD : Hid (D.length = 64)) (m5 : ∀ j v, (bcells D)[j]? = some v → M[5 + j]? = some v) (A6 A7 : Option Addr) (n6 c6 n7 c7 : Nat) (m69 : M[69]? = some (.slice A6 n6 c6)) (m70 : M[70]? = some (.slice A7 n7 c7)) (log : List Rec) (hlog : Hid (log.length = n6)) (hlok : Hid (∀ r ∈ log, r.Ok)) (hn6 : n6 ≤ 40) (gst : List Gst) (hgst : Hid (gst.length = n7)) (hgok : Hid (∀ r ∈ gst, r.Ok)) (hn7 : n7 ≤ 40) (hver : ver < 4294967296) (hfr : Hid (inI fr))
    (hls : ls.length ≤ 100) (w : World) (hpg : Pg G ls w) (hG : G < w.heap.size) (hR6 : Rd w G 35 A6 n6 (log.map recCells).flatten) (hR7 : Rd w G 6 A7 n7 (gst.map gstCells).flatten) :
    Calls Try.prog 65 #[.pointer (some ⟨G, 0, none⟩), .agg M] w fun e w' => e = .returned (.tuple #[]) ∧ Pg G (ls ++ manLines ver fr D log gst) w' ∧ Below G w w' := by
  obtain ⟨X, hX⟩ : ∃ X, X = w.heap.size := ⟨_, rfl⟩
  have hbx := Blk.new w 75 M
  have hpg' := hpg.ext (Chg.of_ext ((Ext.refl w).alloc (.cells M 75)))
  have hls : ls.length ≤ 1000 := by omega
  have hcv : IntKind.i64.wrap (ver : Int) = (ver : Int) := IntWalk.i64_in _ (by omega)
  have hXG : X ≠ G := by omega
  rw [← hX] at hbx
  have HX := Lib.hid hX
  go_enter Try.func65, Try.ntmps65
  go_wp2_with fail
  rw [← hX]
  have hsz : G ≤ (w.alloc (.cells M 75)).drew.heap.size := Nat.le_trans (Nat.le_of_lt (by omega)) (Nat.le_of_lt hbx.lt)
  clear hX hpg
  have hpg := hpg'
  clear hpg'
  obtain ⟨W1, hW1'⟩ : ∃ W1, w.alloc (.cells M 75) = W1 := ⟨_, rfl⟩
  have hW1 := Lib.hid hW1'
  rw [hW1'] at hpg hbx hsz ⊢
  clear hW1'
  refine Flow.wp_region_flow (G) [(11, fun b => G ≤ b)] [(4, fun W => Blk W X 75 M), (8, fun W => Blk W X 75 M), (11, fun W => Pg G ls W ∧ Blk W X 75 M)] (by kernel_rfl) (by kernel_rfl) hsz (Flow.nz_cons (fun _ h => h) Flow.nz_nil) (Flow.facts_cons (hbx.drew) (fun _ _ c h => h.chg c id) (Flow.fz_cons (Flow.no_follow (by kernel_rfl)) Flow.fz_nil) (Flow.facts_cons (hbx.drew) (fun _ _ c h => h.chg c id) (Flow.fz_cons (Flow.no_follow (by kernel_rfl)) Flow.fz_nil) (Flow.facts_cons (⟨hpg.drew, hbx.drew⟩) (fun _ _ c h => ⟨h.1.ext c, h.2.chg c id⟩) (Flow.fz_cons (Flow.no_follow (by kernel_rfl)) Flow.fz_nil) Flow.facts_nil))) ?_
  refine Flow.pass_old 0 (Flow.met_none rfl) (.inl rfl) (by kernel_rfl) (by kernel_rfl) rfl ?_
  refine Flow.pass_val (.pointer (some ⟨G, 0, none⟩)) (Flow.met_none rfl) (fun a W hH => ?_) ?_
  · have e0 := Flow.see_new 10 0 hH.sees (by kernel_rfl) (by kernel_rfl) rfl rfl
    go_simp
  apply Flow.pass_val (hm := (Flow.met_none rfl))
  · intro a W hH
    have e0 := Flow.see_new 11 1 hH.sees (by kernel_rfl) (by kernel_rfl) rfl rfl
    go_simp; first | done | rfl
  apply Flow.pass_val (hm := (Flow.met_none rfl))
  · intro a W hH
    have e0 := Flow.see_old 3 hH.sees (by kernel_rfl) (by kernel_rfl) rfl
    go_simp; first | done | rfl
  refine Flow.pass_val (.int .u32 (ver : Nat)) (Flow.met_none rfl) (fun a W hH => ?_) ?_
  · have e0 := Flow.see_new 13 3 hH.sees (by kernel_rfl) (by kernel_rfl) rfl rfl
    have fa0 : (fun W => Blk W X 75 M) W := hH.fact _ (List.mem_of_getElem? (i := 0) rfl) rfl
    have c := (fa0.cell 0).trans m0; go_simp
  refine Flow.pass_val (.int .i64 (ver : Nat)) (Flow.met_none rfl) (fun a W hH => ?_) ?_
  · have e0 := Flow.see_new 14 4 hH.sees (by kernel_rfl) (by kernel_rfl) rfl rfl
    go_simp; first | done | rfl | (congr; omega)
  refine Flow.pass_step (Reg.eqs (.string ⟨(digStr (ver : Nat)).toArray⟩)) (fun _ _ => Flow.kept_eqs _ _) (Flow.met_none rfl) (fun a W hH => ?_) ?_
  · have e0 := Flow.see_new 15 5 hH.sees (by kernel_rfl) (by kernel_rfl) rfl rfl
    refine Reg.wp_call rfl Try.func41 rfl (by kernel_rfl) (by simp [Act.eval, e0]) (mDigits_any (ver : Nat) (by omega) (by omega) W) ?_
    rintro e w' ⟨rfl, hB⟩
    exact ⟨_, rfl, _, rfl, hB, rfl⟩
  apply Flow.pass_val (hm := (Flow.met_none rfl))
  · intro a W hH
    have e0 := Flow.see_old 3 hH.sees (by kernel_rfl) (by kernel_rfl) rfl
    go_simp; first | done | rfl
  refine Flow.pass_val (.int .i64 fr) (Flow.met_none rfl) (fun a W hH => ?_) ?_
  · have e0 := Flow.see_new 17 7 hH.sees (by kernel_rfl) (by kernel_rfl) rfl rfl
    have fa1 : (fun W => Blk W X 75 M) W := hH.fact _ (List.mem_of_getElem? (i := 1) rfl) rfl
    have c := (fa1.cell 4).trans m4; go_simp
  refine Flow.pass_step (Reg.eqs (.string ⟨(digStr fr).toArray⟩)) (fun _ _ => Flow.kept_eqs _ _) (Flow.met_none rfl) (fun a W hH => ?_) ?_
  · have e0 := Flow.see_new 18 8 hH.sees (by kernel_rfl) (by kernel_rfl) rfl rfl
    refine Reg.wp_call rfl Try.func41 rfl (by kernel_rfl) (by simp [Act.eval, e0]) (mDigits_any fr hfr.out.1 hfr.out.2 W) ?_
    rintro e w' ⟨rfl, hB⟩
    exact ⟨_, rfl, _, rfl, hB, rfl⟩
  refine Flow.pass_lin [11] (fun v W => ∃ b, v = .slice (some ⟨b, 0, none⟩) 5 5 ∧ Blk W b 9 ((manW ver fr).map strV).toArray) (Flow.kept_lin [11] (fun _ _ _ c ⟨b, h1, h2⟩ => ⟨b, h1, h2.chg c id⟩) (Flow.lz_cons (fun _ => .inl rfl) Flow.lz_nil)) (Flow.met_none rfl) (fun a W hH => ?_) ?_
  · have e0 := Flow.see_new 16 6 hH.sees (by kernel_rfl) (by kernel_rfl) rfl rfl
    have e1 := Flow.see_new 19 9 hH.sees (by kernel_rfl) (by kernel_rfl) rfl rfl
    refine Flow.wp_run (Flow.reg_buildSlice _ rfl (by simp [Act.eval, strV, e0, e1]) (run_strs W 5 (manW ver fr) _ rfl (by decide) (by decide) rfl)) ?_
    exact ⟨_, rfl, Chg.of_ext ((Ext.refl W).alloc _), W.heap.size, rfl, Blk.new _ _ _⟩
  refine Flow.pass_gen (fun v W => v = .tuple #[] ∧ Pg G (ls ++ [joinWs (manW ver fr)]) W ∧ Blk W X 75 M) (Flow.kept_of (fun _ _ _ c ⟨h0, h1, h2⟩ => ⟨h0, h1.ext c, h2.chg c id⟩) (Flow.kz_cons (Flow.no_follow (by kernel_rfl)) Flow.kz_nil)) (Flow.met_none rfl) (fun a W hH => ?_) ?_
  · have e0 := Flow.see_new 12 2 hH.sees (by kernel_rfl) (by kernel_rfl) rfl rfl
    obtain ⟨b1, e1, q1⟩ := Flow.see_lin 20 10 hH.sees (by kernel_rfl) (by kernel_rfl) rfl rfl (by kernel_rfl)
    have fa2 : (fun W => Pg G ls W ∧ Blk W X 75 M) W := hH.fact _ (List.mem_of_getElem? (i := 2) rfl) rfl
    refine Flow.wp_callZ rfl Try.func64 rfl (by kernel_rfl) (by simp [Act.eval, e0, e1]) (put_pg G b1 ls (manW ver fr) W fa2.1 q1 hls 5 (Lib.hid rfl) (by omega) (manW_len ver fr hver hfr.out)) ?_
    rintro e w' ⟨rfl, h1, hB, h2⟩
    exact ⟨_, rfl, Chg.of_below hB (fun k hk _ => hk), rfl, h1, h2 _ _ _ (by decide) hXG fa2.2⟩
  refine Flow.pass_end [none, none, none, none, none, none, none, none, none, none, some 10, some 11, some 12, some 13, some 14, some 15, some 16, some 17, some 18, some 19, some 20, some 21, none, none, none, none, none, none, none, none, none, none, none, none, none, none, none, none, none, none, none, none, none, none, none, none, none, none, none, none, none, none, none, none, none, none, none, none, none, none, none, none, none, none, none, none, none, none, none, none, none, none, none, none, none, none, none, none, none, none, none, none, none, none, none, none, none, none, none, none, none, none, none, none, none, none] (by kernel_rfl) ?_
  intro f gg w9 hB hfa hT hfg
  have h21 := hT 11 _ (by kernel_rfl) rfl
  rw [← hfg 21 11 (by kernel_rfl)] at h21
  obtain ⟨_, hpg, hbx⟩ := h21
  have hl1 : Hid ((ls ++ [joinWs (manW ver fr)]).length ≤ 110) := Lib.hid (by simp; omega)
  obtain ⟨l1, hl1d⟩ : ∃ l1, l1 = ls ++ [joinWs (manW ver fr)] := ⟨_, rfl⟩
  have Hl1 := Lib.hid hl1d
  rw [← hl1d] at hpg hl1
  clear hl1d
  have hr5 : w9.rangeAt X 5 (bcells D) := fun j v hv => by rw [hbx.cell]; exact m5 j v hv
  have B9 : Below G w w9 := (((Below.refl G w).alloc (Nat.le_of_lt hG) (.cells M 75)).trans (by rw [hW1.out]; exact (Below.refl G W1).drew)).trans hB
  clear hfa hT hfg hsz hB
  simp only [Reg.sel]
  go_wp2_with ((with_reducible refine at_load 71 ?_); refine wpList_load_mid rfl 71 _ rfl X 5 rfl (bcells D) _ hr5 Try.underlying71 rfl (by rw [bcells_length, hD.out]; kernel_rfl) ?_)
  clear hr5
  go_loopw [24] (fun i wr => ∃ k : Nat, k ≤ 2 ∧ i = .int .i64 k ∧ Pg G (l1 ++ regLines D k) wr ∧ Blk wr X 75 M ∧ Below G w wr) (fun i _ => 2 - (intOf i).toNat)
  case atStart => exact ⟨0, Nat.zero_le _, rfl, by simpa [regLines] using hpg, hbx, B9⟩
  case round =>
    obtain ⟨k, hk, rfl, hpk, hxk, hBk⟩ := hrel
    clear hpg hbx B9
    have hlk : Hid ((l1 ++ regLines D k).length ≤ 120) := Lib.hid (by rw [List.length_append, regLines_len]; have := hl1.out; omega)
    by_cases hk2 : k < 2
    · have hidx := node2Index D k hk2
      obtain ⟨d, hdd⟩ : ∃ d, d = nodeAt D k := ⟨_, rfl⟩
      have hd : Hid (d.length = 32) := Lib.hid (by rw [hdd]; exact nodeAt_len D k (by rw [hD.out]; omega))
      rw [← hdd] at hidx
      have Hd := Lib.hid hdd
      obtain ⟨lk, hlkd⟩ : ∃ lk, lk = l1 ++ regLines D k := ⟨_, rfl⟩
      have Hlk := Lib.hid hlkd
      rw [← hlkd] at hpk hlk
      clear hdd hlkd
      have hGk : G ≤ wr.heap.size := Nat.le_of_lt hpk.lt
      have hxl := hxk.lt
      go_upto_region 5 with (first
        | ((with_reducible refine at_store 29 ?_); refine wpList_storeAll _ rfl 29 _ _ rfl wr.heap.size 29 _ (bcells d).toArray (Blk.new wr _ _) rfl rfl (by rw [List.size_toArray, bcells_length, hd.out]; rfl) (by rw [List.size_toArray, bcells_length, hd.out]; kernel_rfl) (by simpa using bcells_one d) ?_; intro W3 hy hg3 hs3; have C3 := (Chg.of_ext (Z := fun b => b = wr.heap.size) ((Ext.refl wr).alloc _)).trans (Chg.grown hg3 (by rintro k h; cases h; rfl))))
      simp only [Act.put]
      have hpk := hpk.own1 C3
      have hxk := hxk.chg C3 (fun e => by omega)
      have B3 : Below G w W3 := hBk.trans (C3.below (n := G) (fun j e => by have e2 : j = wr.heap.size := e; omega) hGk)
      have hsz : G ≤ W3.drew.heap.size := Nat.le_of_lt hpk.drew.lt
      have hlk : lk.length ≤ 1000 := by have := hlk.out; omega
      clear hg3 hs3 C3 hBk hidx
      refine Flow.wp_region_flow (G) [(8, fun b => G ≤ b)] [(5, fun W => Blk W wr.heap.size 29 (bcells d).toArray), (8, fun W => Pg G lk W ∧ Blk W X 75 M)] (by kernel_rfl) (by kernel_rfl) hsz (Flow.nz_cons (fun _ h => h) Flow.nz_nil) (Flow.facts_cons (hy.drew) (fun _ _ c h => h.chg c id) (Flow.fz_cons (Flow.no_follow (by kernel_rfl)) Flow.fz_nil) (Flow.facts_cons (⟨hpk.drew, hxk.drew⟩) (fun _ _ c h => ⟨h.1.ext c, h.2.chg c id⟩) (Flow.fz_cons (Flow.no_follow (by kernel_rfl)) Flow.fz_nil) Flow.facts_nil)) ?_
      refine Flow.pass_old 0 (Flow.met_none rfl) (.inl rfl) (by kernel_rfl) (by kernel_rfl) rfl ?_
      refine Flow.pass_val (.pointer (some ⟨G, 0, none⟩)) (Flow.met_none rfl) (fun a W hH => ?_) ?_
      · have e0 := Flow.see_new 28 0 hH.sees (by kernel_rfl) (by kernel_rfl) rfl rfl
        go_simp
      apply Flow.pass_val (hm := (Flow.met_none rfl))
      · intro a W hH
        have e0 := Flow.see_new 29 1 hH.sees (by kernel_rfl) (by kernel_rfl) rfl rfl
        go_simp; first | done | rfl
      refine Flow.pass_old 4 (Flow.met_none rfl) (.inl rfl) (by kernel_rfl) (by kernel_rfl) rfl ?_
      refine Flow.pass_step (Reg.eqs (.string ⟨(digStr (k : Nat)).toArray⟩)) (fun _ _ => Flow.kept_eqs _ _) (Flow.met_none rfl) (fun a W hH => ?_) ?_
      · have e0 := Flow.see_new 31 3 hH.sees (by kernel_rfl) (by kernel_rfl) rfl rfl
        refine Reg.wp_call rfl Try.func41 rfl (by kernel_rfl) (by simp [Act.eval, e0]) (mDigits_any (k : Nat) (by omega) (by omega) W) ?_
        rintro e w' ⟨rfl, hB⟩
        exact ⟨_, rfl, _, rfl, hB, rfl⟩
      refine Flow.pass_val (.agg (bcells d).toArray) (Flow.met_none rfl) (fun a W hH => ?_) ?_
      · have e0 := Flow.see_old 5 hH.sees (by kernel_rfl) (by kernel_rfl) rfl
        have fa0 : (fun W => Blk W wr.heap.size 29 (bcells d).toArray) W := hH.fact _ (List.mem_of_getElem? (i := 0) rfl) rfl
        exact reg_load 29 5 rfl e0 fa0 Try.underlying29 rfl (by rw [List.size_toArray, bcells_length, hd.out]; kernel_rfl)
      refine Flow.pass_step (Reg.eqs (.string ⟨(hexL d).toArray⟩)) (fun _ _ => Flow.kept_eqs _ _) (Flow.met_none rfl) (fun a W hH => ?_) ?_
      · have e0 := Flow.see_new 33 5 hH.sees (by kernel_rfl) (by kernel_rfl) rfl rfl
        refine Reg.wp_call rfl Try.func43 rfl (by kernel_rfl) (by simp [Act.eval, e0]) (mNode_any d hd W) ?_
        rintro e w' ⟨rfl, hB⟩
        exact ⟨_, rfl, _, rfl, hB, rfl⟩
      refine Flow.pass_lin [8] (fun v W => ∃ b, v = .slice (some ⟨b, 0, none⟩) 3 3 ∧ Blk W b 9 ((regW k d).map strV).toArray) (Flow.kept_lin [8] (fun _ _ _ c ⟨b, h1, h2⟩ => ⟨b, h1, h2.chg c id⟩) (Flow.lz_cons (fun _ => .inl rfl) Flow.lz_nil)) (Flow.met_none rfl) (fun a W hH => ?_) ?_
      · have e0 := Flow.see_new 32 4 hH.sees (by kernel_rfl) (by kernel_rfl) rfl rfl
        have e1 := Flow.see_new 34 6 hH.sees (by kernel_rfl) (by kernel_rfl) rfl rfl
        refine Flow.wp_run (Flow.reg_buildSlice _ rfl (by simp [Act.eval, strV, e0, e1]) (run_strs W 3 (regW k d) _ rfl (by decide) (by decide) rfl)) ?_
        exact ⟨_, rfl, Chg.of_ext ((Ext.refl W).alloc _), W.heap.size, rfl, Blk.new _ _ _⟩
      refine Flow.pass_gen (fun v W => v = .tuple #[] ∧ Pg G (lk ++ [joinWs (regW k d)]) W ∧ Blk W X 75 M) (Flow.kept_of (fun _ _ _ c ⟨h0, h1, h2⟩ => ⟨h0, h1.ext c, h2.chg c id⟩) (Flow.kz_cons (Flow.no_follow (by kernel_rfl)) Flow.kz_nil)) (Flow.met_none rfl) (fun a W hH => ?_) ?_
      · have e0 := Flow.see_new 30 2 hH.sees (by kernel_rfl) (by kernel_rfl) rfl rfl
        obtain ⟨b1, e1, q1⟩ := Flow.see_lin 35 7 hH.sees (by kernel_rfl) (by kernel_rfl) rfl rfl (by kernel_rfl)
        have fa1 : (fun W => Pg G lk W ∧ Blk W X 75 M) W := hH.fact _ (List.mem_of_getElem? (i := 1) rfl) rfl
        refine Flow.wp_callZ rfl Try.func64 rfl (by kernel_rfl) (by simp [Act.eval, e0, e1]) (put_pg G b1 lk (regW k d) W fa1.1 q1 hlk 3 (Lib.hid rfl) (by omega) (regW_len k d (by omega) hd)) ?_
        rintro e w' ⟨rfl, h1, hB, h2⟩
        exact ⟨_, rfl, Chg.of_below hB (fun k hk _ => hk), rfl, h1, h2 _ _ _ (by decide) hXG fa1.2⟩
      refine Flow.pass_end [none, none, none, none, none, none, none, none, none, none, none, none, none, none, none, none, none, none, none, none, none, none, none, none, none, none, none, none, some 28, some 29, some 30, some 31, some 32, some 33, some 34, some 35, some 36, none, none, none, none, none, none, none, none, none, none, none, none, none, none, none, none, none, none, none, none, none, none, none, none, none, none, none, none, none, none, none, none, none, none, none, none, none, none, none, none, none, none, none, none, none, none, none, none, none, none, none, none, none, none, none, none, none, none, none] (by kernel_rfl) ?_
      intro f gg w9 hB hfa hT hfg
      have h36 := hT 8 _ (by kernel_rfl) rfl
      rw [← hfg 36 8 (by kernel_rfl)] at h36
      obtain ⟨_, hpk, hxk⟩ := h36
      have B9 := B3.drew.trans hB
      clear hfa hT hfg hB B3 hy
      simp only [Reg.sel]
      go_wp2
      go_roundw
      case rel => exact ⟨k + 1, by omega, by go_num, by rw [regLines_succ, ← List.append_assoc, ← Hlk.out, ← Hd.out]; exact hpk, hxk, B9⟩
      case measure => simp [intOf]; omega
    · have hke : k = 2 := by omega
      subst hke
      obtain ⟨l2, hl2d⟩ : ∃ l2, l2 = l1 ++ regLines D 2 := ⟨_, rfl⟩
      rw [← hl2d] at hpk hlk
      have Hl2 := Lib.hid hl2d
      clear hl2d
      have c69 := (hxk.cell 69).trans m69
      go_wp2_with fail
      have hll2 : Hid (l2.length ≤ 120) := hlk
      clear c69 hlk
      go_loopw [41] (fun i wr => ∃ k : Nat, k ≤ n6 ∧ i = .int .i64 k ∧ Pg G (l2 ++ (log.take k).map fun r => joinWs (recW r)) wr ∧ Blk wr X 75 M ∧ Below G w wr) (fun i _ => n6 - (intOf i).toNat)
      case atStart => exact ⟨0, Nat.zero_le _, rfl, by simpa using hpk, hxk, hBk⟩
      case round =>
        clear hpk hxk hBk
        obtain ⟨k, hk, rfl, hpk, hxk, hBk⟩ := hrel
        have hlk : Hid ((l2 ++ (log.take k).map fun r => joinWs (recW r)).length ≤ 160) := Lib.hid (by simp; have := hll2.out; omega)
        by_cases hk2 : k < n6
        · have hkl : k < log.length := by rw [hlog.out]; exact hk2
          obtain ⟨b, o, rfl, hbG, hrg⟩ := (hR6.below hBk).range (by omega)
          obtain ⟨r, hrd⟩ : ∃ r, r = log[k] := ⟨_, rfl⟩
          have hr : Hid r.Ok := Lib.hid (by rw [hrd]; exact hlok.out _ (List.getElem_mem hkl))
          have hrr := range_row recCells 35 log o (fun x hx => recCells_length x (hlok.out x hx)) hrg k hkl
          rw [← hrd] at hrr
          have Hr := Lib.hid hrd
          obtain ⟨lk, hlkd⟩ : ∃ lk, lk = l2 ++ (log.take k).map fun r => joinWs (recW r) := ⟨_, rfl⟩
          have Hlk := Lib.hid hlkd
          rw [← hlkd] at hpk hlk
          have hcl : Hid ((recCells r).length = 35) := Lib.hid (recCells_length r hr.out)
          clear hrd hlkd hrg
          have hGk : G ≤ wr.heap.size := Nat.le_of_lt hpk.lt
          have hxl := hxk.lt
          go_upto_region 10 with (first
            | ((with_reducible refine at_load 130 ?_); refine wpList_load_mid rfl 130 _ rfl b (o + k * 35) rfl (recCells r) _ hrr Try.underlying130 rfl (by rw [hcl.out]; kernel_rfl) ?_)
            | ((with_reducible refine at_store 130 ?_); refine wpList_storeAll _ rfl 130 _ _ rfl wr.heap.size 130 _ (recCells r).toArray (Blk.new wr _ _) rfl rfl (by rw [List.size_toArray, hcl.out]; rfl) (by rw [List.size_toArray, hcl.out]; kernel_rfl) (recCells_one r) ?_; intro W3 hy hg3 hs3; have C3 := (Chg.of_ext (Z := fun b => b = wr.heap.size) ((Ext.refl wr).alloc _)).trans (Chg.grown hg3 (by rintro k h; cases h; rfl))))
          simp only [Act.put]
          have hpk := hpk.own1 C3
          have hxk := hxk.chg C3 (fun e => by omega)
          have B3 : Below G w W3 := hBk.trans (C3.below (n := G) (fun j e => by have e2 : j = wr.heap.size := e; omega) hGk)
          have hsz : G ≤ W3.drew.heap.size := Nat.le_of_lt hpk.drew.lt
          have hlk : lk.length ≤ 1000 := by have := hlk.out; omega
          clear hg3 hs3 C3 hBk hrr
          refine Flow.wp_region_flow (G) [(16, fun b => G ≤ b)] [(4, fun W => Blk W wr.heap.size 130 (recCells r).toArray), (7, fun W => Blk W wr.heap.size 130 (recCells r).toArray), (10, fun W => Blk W wr.heap.size 130 (recCells r).toArray), (13, fun W => Blk W wr.heap.size 130 (recCells r).toArray), (16, fun W => Pg G lk W ∧ Blk W X 75 M)] (by kernel_rfl) (by kernel_rfl) hsz (Flow.nz_cons (fun _ h => h) Flow.nz_nil) (Flow.facts_cons (hy.drew) (fun _ _ c h => h.chg c id) (Flow.fz_cons (Flow.no_follow (by kernel_rfl)) Flow.fz_nil) (Flow.facts_cons (hy.drew) (fun _ _ c h => h.chg c id) (Flow.fz_cons (Flow.no_follow (by kernel_rfl)) Flow.fz_nil) (Flow.facts_cons (hy.drew) (fun _ _ c h => h.chg c id) (Flow.fz_cons (Flow.no_follow (by kernel_rfl)) Flow.fz_nil) (Flow.facts_cons (hy.drew) (fun _ _ c h => h.chg c id) (Flow.fz_cons (Flow.no_follow (by kernel_rfl)) Flow.fz_nil) (Flow.facts_cons (⟨hpk.drew, hxk.drew⟩) (fun _ _ c h => ⟨h.1.ext c, h.2.chg c id⟩) (Flow.fz_cons (Flow.no_follow (by kernel_rfl)) Flow.fz_nil) Flow.facts_nil))))) ?_
          refine Flow.pass_old 0 (Flow.met_none rfl) (.inl rfl) (by kernel_rfl) (by kernel_rfl) rfl ?_
          refine Flow.pass_val (.pointer (some ⟨G, 0, none⟩)) (Flow.met_none rfl) (fun a W hH => ?_) ?_
          · have e0 := Flow.see_new 45 0 hH.sees (by kernel_rfl) (by kernel_rfl) rfl rfl
            go_simp
          apply Flow.pass_val (hm := (Flow.met_none rfl))
          · intro a W hH
            have e0 := Flow.see_new 46 1 hH.sees (by kernel_rfl) (by kernel_rfl) rfl rfl
            go_simp; first | done | rfl
          apply Flow.pass_val (hm := (Flow.met_none rfl))
          · intro a W hH
            have e0 := Flow.see_old 7 hH.sees (by kernel_rfl) (by kernel_rfl) rfl
            go_simp; first | done | rfl
          refine Flow.pass_val (.int .i64 r.idx) (Flow.met_none rfl) (fun a W hH => ?_) ?_
          · have e0 := Flow.see_new 48 3 hH.sees (by kernel_rfl) (by kernel_rfl) rfl rfl
            have fa0 : (fun W => Blk W wr.heap.size 130 (recCells r).toArray) W := hH.fact _ (List.mem_of_getElem? (i := 0) rfl) rfl
            have c := fa0.cell 1; simp only [recCells] at c; go_simp
          refine Flow.pass_step (Reg.eqs (.string ⟨(digStr r.idx).toArray⟩)) (fun _ _ => Flow.kept_eqs _ _) (Flow.met_none rfl) (fun a W hH => ?_) ?_
          · have e0 := Flow.see_new 49 4 hH.sees (by kernel_rfl) (by kernel_rfl) rfl rfl
            refine Reg.wp_call rfl Try.func41 rfl (by kernel_rfl) (by simp [Act.eval, e0]) (mDigits_any r.idx hr.out.idx.1 hr.out.idx.2 W) ?_
            rintro e w' ⟨rfl, hB⟩
            exact ⟨_, rfl, _, rfl, hB, rfl⟩
          apply Flow.pass_val (hm := (Flow.met_none rfl))
          · intro a W hH
            have e0 := Flow.see_old 7 hH.sees (by kernel_rfl) (by kernel_rfl) rfl
            go_simp; first | done | rfl
          refine Flow.pass_val (.int .i64 r.kind) (Flow.met_none rfl) (fun a W hH => ?_) ?_
          · have e0 := Flow.see_new 51 6 hH.sees (by kernel_rfl) (by kernel_rfl) rfl rfl
            have fa1 : (fun W => Blk W wr.heap.size 130 (recCells r).toArray) W := hH.fact _ (List.mem_of_getElem? (i := 1) rfl) rfl
            have c := fa1.cell 0; simp only [recCells] at c; go_simp
          refine Flow.pass_step (Reg.eqs (.string ⟨(kindStr r.kind).toArray⟩)) (fun _ _ => Flow.kept_eqs _ _) (Flow.met_none rfl) (fun a W hH => ?_) ?_
          · have e0 := Flow.see_new 52 7 hH.sees (by kernel_rfl) (by kernel_rfl) rfl rfl
            refine Reg.wp_call rfl Try.func78 rfl (by kernel_rfl) (by simp [Act.eval, e0]) (kind_any r.kind W) ?_
            rintro e w' ⟨rfl, rfl⟩
            exact ⟨_, rfl, _, rfl, Below.refl _ _, rfl⟩
          apply Flow.pass_val (hm := (Flow.met_none rfl))
          · intro a W hH
            have e0 := Flow.see_old 7 hH.sees (by kernel_rfl) (by kernel_rfl) rfl
            go_simp; first | done | rfl
          refine Flow.pass_val (.int .i64 r.err) (Flow.met_none rfl) (fun a W hH => ?_) ?_
          · have e0 := Flow.see_new 54 9 hH.sees (by kernel_rfl) (by kernel_rfl) rfl rfl
            have fa2 : (fun W => Blk W wr.heap.size 130 (recCells r).toArray) W := hH.fact _ (List.mem_of_getElem? (i := 2) rfl) rfl
            have c := fa2.cell 2; simp only [recCells] at c; go_simp
          refine Flow.pass_step (Reg.eqs (.string ⟨(nameOf r.err).toArray⟩)) (fun _ _ => Flow.kept_eqs _ _) (Flow.met_none rfl) (fun a W hH => ?_) ?_
          · have e0 := Flow.see_new 55 10 hH.sees (by kernel_rfl) (by kernel_rfl) rfl rfl
            refine Reg.wp_call rfl Try.func47 rfl (by kernel_rfl) (by simp [Act.eval, e0]) (mName_any r.err hr.out.err.1 hr.out.err.2 W) ?_
            rintro e w' ⟨rfl, hB⟩
            exact ⟨_, rfl, _, rfl, hB, rfl⟩
          apply Flow.pass_val (hm := (Flow.met_none rfl))
          · intro a W hH
            have e0 := Flow.see_old 7 hH.sees (by kernel_rfl) (by kernel_rfl) rfl
            go_simp; first | done | rfl
          refine Flow.pass_val (.agg (bcells r.dig).toArray) (Flow.met_none rfl) (fun a W hH => ?_) ?_
          · have e0 := Flow.see_new 57 12 hH.sees (by kernel_rfl) (by kernel_rfl) rfl rfl
            have fa3 : (fun W => Blk W wr.heap.size 130 (recCells r).toArray) W := hH.fact _ (List.mem_of_getElem? (i := 3) rfl) rfl
            exact reg_loadRangeL 29 57 rfl e0 (rec_dig fa3) Try.underlying29 rfl (by rw [List.size_toArray, bcells_length, hr.out.dig]; kernel_rfl)
          refine Flow.pass_step (Reg.eqs (.string ⟨(hexL r.dig).toArray⟩)) (fun _ _ => Flow.kept_eqs _ _) (Flow.met_none rfl) (fun a W hH => ?_) ?_
          · have e0 := Flow.see_new 58 13 hH.sees (by kernel_rfl) (by kernel_rfl) rfl rfl
            refine Reg.wp_call rfl Try.func43 rfl (by kernel_rfl) (by simp [Act.eval, e0]) (mNode_any r.dig (Lib.hid hr.out.dig) W) ?_
            rintro e w' ⟨rfl, hB⟩
            exact ⟨_, rfl, _, rfl, hB, rfl⟩
          refine Flow.pass_lin [16] (fun v W => ∃ b, v = .slice (some ⟨b, 0, none⟩) 5 5 ∧ Blk W b 9 ((recW r).map strV).toArray) (Flow.kept_lin [16] (fun _ _ _ c ⟨b, h1, h2⟩ => ⟨b, h1, h2.chg c id⟩) (Flow.lz_cons (fun _ => .inl rfl) Flow.lz_nil)) (Flow.met_none rfl) (fun a W hH => ?_) ?_
          · have e0 := Flow.see_new 50 5 hH.sees (by kernel_rfl) (by kernel_rfl) rfl rfl
            have e1 := Flow.see_new 53 8 hH.sees (by kernel_rfl) (by kernel_rfl) rfl rfl
            have e2 := Flow.see_new 56 11 hH.sees (by kernel_rfl) (by kernel_rfl) rfl rfl
            have e3 := Flow.see_new 59 14 hH.sees (by kernel_rfl) (by kernel_rfl) rfl rfl
            refine Flow.wp_run (Flow.reg_buildSlice _ rfl (by simp [Act.eval, strV, e0, e1, e2, e3]) (run_strs W 5 (recW r) _ rfl (by decide) (by decide) rfl)) ?_
            exact ⟨_, rfl, Chg.of_ext ((Ext.refl W).alloc _), W.heap.size, rfl, Blk.new _ _ _⟩
          refine Flow.pass_gen (fun v W => v = .tuple #[] ∧ Pg G (lk ++ [joinWs (recW r)]) W ∧ Blk W X 75 M) (Flow.kept_of (fun _ _ _ c ⟨h0, h1, h2⟩ => ⟨h0, h1.ext c, h2.chg c id⟩) (Flow.kz_cons (Flow.no_follow (by kernel_rfl)) Flow.kz_nil)) (Flow.met_none rfl) (fun a W hH => ?_) ?_
          · have e0 := Flow.see_new 47 2 hH.sees (by kernel_rfl) (by kernel_rfl) rfl rfl
            obtain ⟨b1, e1, q1⟩ := Flow.see_lin 60 15 hH.sees (by kernel_rfl) (by kernel_rfl) rfl rfl (by kernel_rfl)
            have fa4 : (fun W => Pg G lk W ∧ Blk W X 75 M) W := hH.fact _ (List.mem_of_getElem? (i := 4) rfl) rfl
            refine Flow.wp_callZ rfl Try.func64 rfl (by kernel_rfl) (by simp [Act.eval, e0, e1]) (put_pg G b1 lk (recW r) W fa4.1 q1 hlk 5 (Lib.hid rfl) (by omega) (recW_len r hr.out)) ?_
            rintro e w' ⟨rfl, h1, hB, h2⟩
            exact ⟨_, rfl, Chg.of_below hB (fun k hk _ => hk), rfl, h1, h2 _ _ _ (by decide) hXG fa4.2⟩
          refine Flow.pass_end [none, none, none, none, none, none, none, none, none, none, none, none, none, none, none, none, none, none, none, none, none, none, none, none, none, none, none, none, none, none, none, none, none, none, none, none, none, none, none, none, none, none, none, none, none, some 45, some 46, some 47, some 48, some 49, some 50, some 51, some 52, some 53, some 54, some 55, some 56, some 57, some 58, some 59, some 60, some 61, none, none, none, none, none, none, none, none, none, none, none, none, none, none, none, none, none, none, none, none, none, none, none, none, none, none, none, none, none, none, none, none, none, none] (by kernel_rfl) ?_
          intro f gg w9 hB hfa hT hfg
          have h61 := hT 16 _ (by kernel_rfl) rfl
          rw [← hfg 61 16 (by kernel_rfl)] at h61
          obtain ⟨_, hpk, hxk⟩ := h61
          have B9 := B3.drew.trans hB
          clear hfa hT hfg hB B3 hy
          simp only [Reg.sel]
          go_wp2
          go_roundw
          case rel => ((repeat apply Exists.intro); refine ⟨?_, rfl⟩; exact ⟨k + 1, by omega, by go_num, by rw [List.take_succ_eq_append_getElem hkl, List.map_append, ← List.append_assoc, ← Hlk.out, List.map_cons, List.map_nil, ← Hr.out]; exact hpk, hxk, B9⟩)
          case measure => simp [intOf]; omega
        · have hke : k = n6 := by omega
          subst hke
          rw [List.take_of_length_le (by rw [hlog.out]; exact Nat.le_refl _)] at hpk hlk
          obtain ⟨l3, hl3d⟩ : ∃ l3, l3 = l2 ++ log.map fun r => joinWs (recW r) := ⟨_, rfl⟩
          rw [← hl3d] at hpk hlk
          have Hl3 := Lib.hid hl3d
          clear hl3d
          have c70 := (hxk.cell 70).trans m70
          go_wp2_with fail
          have hll3 : Hid (l3.length ≤ 160) := hlk
          clear c70 hlk
          go_loopw [66] (fun i wr => ∃ k : Nat, k ≤ n7 ∧ i = .int .i64 k ∧ Pg G (l3 ++ (gst.take k).map fun r => joinWs (gstW r)) wr ∧ Blk wr X 75 M ∧ Below G w wr) (fun i _ => n7 - (intOf i).toNat)
          case atStart => exact ⟨0, Nat.zero_le _, rfl, by simpa using hpk, hxk, hBk⟩
          case round =>
            clear hpk hxk hBk
            obtain ⟨k, hk, rfl, hpk, hxk, hBk⟩ := hrel
            have hlk : Hid ((l3 ++ (gst.take k).map fun r => joinWs (gstW r)).length ≤ 200) := Lib.hid (by simp; have := hll3.out; omega)
            by_cases hk2 : k < n7
            · have hkl : k < gst.length := by rw [hgst.out]; exact hk2
              obtain ⟨b, o, rfl, hbG, hrg⟩ := (hR7.below hBk).range (by omega)
              obtain ⟨r, hrd⟩ : ∃ r, r = gst[k] := ⟨_, rfl⟩
              have hr : Hid r.Ok := Lib.hid (by rw [hrd]; exact hgok.out _ (List.getElem_mem hkl))
              have hrr := range_row gstCells 6 gst o (fun x _ => rfl) hrg k hkl
              rw [← hrd] at hrr
              have Hr := Lib.hid hrd
              obtain ⟨lk, hlkd⟩ : ∃ lk, lk = l3 ++ (gst.take k).map fun r => joinWs (gstW r) := ⟨_, rfl⟩
              have Hlk := Lib.hid hlkd
              rw [← hlkd] at hpk hlk
              clear hrd hlkd hrg
              have hGk : G ≤ wr.heap.size := Nat.le_of_lt hpk.lt
              have hxl := hxk.lt
              go_upto_region 15 with (first
                | ((with_reducible refine at_load 132 ?_); refine wpList_load_mid rfl 132 _ rfl b (o + k * 6) rfl (gstCells r) _ hrr Try.underlying132 rfl (by kernel_rfl) ?_)
                | ((with_reducible refine at_store 132 ?_); refine wpList_storeAll _ rfl 132 _ _ rfl wr.heap.size 132 _ (gstCells r).toArray (Blk.new wr _ _) rfl rfl rfl (by kernel_rfl) (gstCells_one r) ?_; intro W3 hy hg3 hs3; have C3 := (Chg.of_ext (Z := fun b => b = wr.heap.size) ((Ext.refl wr).alloc _)).trans (Chg.grown hg3 (by rintro k h; cases h; rfl))))
              simp only [Act.put]
              have hpk := hpk.own1 C3
              have hxk := hxk.chg C3 (fun e => by omega)
              have B3 : Below G w W3 := hBk.trans (C3.below (n := G) (fun j e => by have e2 : j = wr.heap.size := e; omega) hGk)
              have hsz : G ≤ W3.drew.heap.size := Nat.le_of_lt hpk.drew.lt
              have hlk : lk.length ≤ 1000 := by have := hlk.out; omega
              have hcg : IntKind.i64.wrap (r.ver : Int) = (r.ver : Int) := IntWalk.i64_in _ (by have := hr.out.ver; omega)
              have hcu : IntKind.u64.wrap (r.cpus : Int) = (r.cpus : Int) := IntWalk.u64_in _ (by have := hr.out.cpus; omega)
              clear hg3 hs3 C3 hBk hrr
              refine Flow.wp_region_flow (G) [(24, fun b => G ≤ b)] [(4, fun W => Blk W wr.heap.size 132 (gstCells r).toArray), (7, fun W => Blk W wr.heap.size 132 (gstCells r).toArray), (11, fun W => Blk W wr.heap.size 132 (gstCells r).toArray), (14, fun W => Blk W wr.heap.size 132 (gstCells r).toArray), (17, fun W => Blk W wr.heap.size 132 (gstCells r).toArray), (20, fun W => Blk W wr.heap.size 132 (gstCells r).toArray), (24, fun W => Pg G lk W ∧ Blk W X 75 M)] (by kernel_rfl) (by kernel_rfl) hsz (Flow.nz_cons (fun _ h => h) Flow.nz_nil) (Flow.facts_cons (hy.drew) (fun _ _ c h => h.chg c id) (Flow.fz_cons (Flow.no_follow (by kernel_rfl)) Flow.fz_nil) (Flow.facts_cons (hy.drew) (fun _ _ c h => h.chg c id) (Flow.fz_cons (Flow.no_follow (by kernel_rfl)) Flow.fz_nil) (Flow.facts_cons (hy.drew) (fun _ _ c h => h.chg c id) (Flow.fz_cons (Flow.no_follow (by kernel_rfl)) Flow.fz_nil) (Flow.facts_cons (hy.drew) (fun _ _ c h => h.chg c id) (Flow.fz_cons (Flow.no_follow (by kernel_rfl)) Flow.fz_nil) (Flow.facts_cons (hy.drew) (fun _ _ c h => h.chg c id) (Flow.fz_cons (Flow.no_follow (by kernel_rfl)) Flow.fz_nil) (Flow.facts_cons (hy.drew) (fun _ _ c h => h.chg c id) (Flow.fz_cons (Flow.no_follow (by kernel_rfl)) Flow.fz_nil) (Flow.facts_cons (⟨hpk.drew, hxk.drew⟩) (fun _ _ c h => ⟨h.1.ext c, h.2.chg c id⟩) (Flow.fz_cons (Flow.no_follow (by kernel_rfl)) Flow.fz_nil) Flow.facts_nil))))))) ?_
              refine Flow.pass_old 0 (Flow.met_none rfl) (.inl rfl) (by kernel_rfl) (by kernel_rfl) rfl ?_
              refine Flow.pass_val (.pointer (some ⟨G, 0, none⟩)) (Flow.met_none rfl) (fun a W hH => ?_) ?_
              · have e0 := Flow.see_new 70 0 hH.sees (by kernel_rfl) (by kernel_rfl) rfl rfl
                go_simp
              apply Flow.pass_val (hm := (Flow.met_none rfl))
              · intro a W hH
                have e0 := Flow.see_new 71 1 hH.sees (by kernel_rfl) (by kernel_rfl) rfl rfl
                go_simp; first | done | rfl
              apply Flow.pass_val (hm := (Flow.met_none rfl))
              · intro a W hH
                have e0 := Flow.see_old 9 hH.sees (by kernel_rfl) (by kernel_rfl) rfl
                go_simp; first | done | rfl
              refine Flow.pass_val (.int .i64 r.g) (Flow.met_none rfl) (fun a W hH => ?_) ?_
              · have e0 := Flow.see_new 73 3 hH.sees (by kernel_rfl) (by kernel_rfl) rfl rfl
                have fa0 : (fun W => Blk W wr.heap.size 132 (gstCells r).toArray) W := hH.fact _ (List.mem_of_getElem? (i := 0) rfl) rfl
                have c := fa0.cell 0; simp only [gstCells] at c; go_simp
              refine Flow.pass_step (Reg.eqs (.string ⟨(digStr r.g).toArray⟩)) (fun _ _ => Flow.kept_eqs _ _) (Flow.met_none rfl) (fun a W hH => ?_) ?_
              · have e0 := Flow.see_new 74 4 hH.sees (by kernel_rfl) (by kernel_rfl) rfl rfl
                refine Reg.wp_call rfl Try.func41 rfl (by kernel_rfl) (by simp [Act.eval, e0]) (mDigits_any r.g hr.out.g.1 hr.out.g.2 W) ?_
                rintro e w' ⟨rfl, hB⟩
                exact ⟨_, rfl, _, rfl, hB, rfl⟩
              apply Flow.pass_val (hm := (Flow.met_none rfl))
              · intro a W hH
                have e0 := Flow.see_old 9 hH.sees (by kernel_rfl) (by kernel_rfl) rfl
                go_simp; first | done | rfl
              refine Flow.pass_val (.int .u32 (r.ver : Nat)) (Flow.met_none rfl) (fun a W hH => ?_) ?_
              · have e0 := Flow.see_new 76 6 hH.sees (by kernel_rfl) (by kernel_rfl) rfl rfl
                have fa1 : (fun W => Blk W wr.heap.size 132 (gstCells r).toArray) W := hH.fact _ (List.mem_of_getElem? (i := 1) rfl) rfl
                have c := fa1.cell 1; simp only [gstCells] at c; go_simp
              refine Flow.pass_val (.int .i64 (r.ver : Nat)) (Flow.met_none rfl) (fun a W hH => ?_) ?_
              · have e0 := Flow.see_new 77 7 hH.sees (by kernel_rfl) (by kernel_rfl) rfl rfl
                go_simp; first | done | exact hcg
              refine Flow.pass_step (Reg.eqs (.string ⟨(digStr (r.ver : Nat)).toArray⟩)) (fun _ _ => Flow.kept_eqs _ _) (Flow.met_none rfl) (fun a W hH => ?_) ?_
              · have e0 := Flow.see_new 78 8 hH.sees (by kernel_rfl) (by kernel_rfl) rfl rfl
                refine Reg.wp_call rfl Try.func41 rfl (by kernel_rfl) (by simp [Act.eval, e0]) (mDigits_any (r.ver : Nat) (by have := hr.out.ver; omega) (by have := hr.out.ver; omega) W) ?_
                rintro e w' ⟨rfl, hB⟩
                exact ⟨_, rfl, _, rfl, hB, rfl⟩
              apply Flow.pass_val (hm := (Flow.met_none rfl))
              · intro a W hH
                have e0 := Flow.see_old 9 hH.sees (by kernel_rfl) (by kernel_rfl) rfl
                go_simp; first | done | rfl
              refine Flow.pass_val (.int .u64 (r.vt : Nat)) (Flow.met_none rfl) (fun a W hH => ?_) ?_
              · have e0 := Flow.see_new 80 10 hH.sees (by kernel_rfl) (by kernel_rfl) rfl rfl
                have fa2 : (fun W => Blk W wr.heap.size 132 (gstCells r).toArray) W := hH.fact _ (List.mem_of_getElem? (i := 2) rfl) rfl
                have c := fa2.cell 2; simp only [gstCells] at c; go_simp
              refine Flow.pass_step (Reg.eqs (.string ⟨(wideStr r.vt).toArray⟩)) (fun _ _ => Flow.kept_eqs _ _) (Flow.met_none rfl) (fun a W hH => ?_) ?_
              · have e0 := Flow.see_new 81 11 hH.sees (by kernel_rfl) (by kernel_rfl) rfl rfl
                refine Reg.wp_call rfl Try.func79 rfl (by kernel_rfl) (by simp [Act.eval, e0]) (mWide_any r.vt hr.out.vt W) ?_
                rintro e w' ⟨rfl, hB⟩
                exact ⟨_, rfl, _, rfl, hB, rfl⟩
              apply Flow.pass_val (hm := (Flow.met_none rfl))
              · intro a W hH
                have e0 := Flow.see_old 9 hH.sees (by kernel_rfl) (by kernel_rfl) rfl
                go_simp; first | done | rfl
              refine Flow.pass_val (.int .u64 (r.en : Nat)) (Flow.met_none rfl) (fun a W hH => ?_) ?_
              · have e0 := Flow.see_new 83 13 hH.sees (by kernel_rfl) (by kernel_rfl) rfl rfl
                have fa3 : (fun W => Blk W wr.heap.size 132 (gstCells r).toArray) W := hH.fact _ (List.mem_of_getElem? (i := 3) rfl) rfl
                have c := fa3.cell 3; simp only [gstCells] at c; go_simp
              refine Flow.pass_step (Reg.eqs (.string ⟨(wideStr r.en).toArray⟩)) (fun _ _ => Flow.kept_eqs _ _) (Flow.met_none rfl) (fun a W hH => ?_) ?_
              · have e0 := Flow.see_new 84 14 hH.sees (by kernel_rfl) (by kernel_rfl) rfl rfl
                refine Reg.wp_call rfl Try.func79 rfl (by kernel_rfl) (by simp [Act.eval, e0]) (mWide_any r.en hr.out.en W) ?_
                rintro e w' ⟨rfl, hB⟩
                exact ⟨_, rfl, _, rfl, hB, rfl⟩
              apply Flow.pass_val (hm := (Flow.met_none rfl))
              · intro a W hH
                have e0 := Flow.see_old 9 hH.sees (by kernel_rfl) (by kernel_rfl) rfl
                go_simp; first | done | rfl
              refine Flow.pass_val (.int .u64 (r.dt : Nat)) (Flow.met_none rfl) (fun a W hH => ?_) ?_
              · have e0 := Flow.see_new 86 16 hH.sees (by kernel_rfl) (by kernel_rfl) rfl rfl
                have fa4 : (fun W => Blk W wr.heap.size 132 (gstCells r).toArray) W := hH.fact _ (List.mem_of_getElem? (i := 4) rfl) rfl
                have c := fa4.cell 4; simp only [gstCells] at c; go_simp
              refine Flow.pass_step (Reg.eqs (.string ⟨(wideStr r.dt).toArray⟩)) (fun _ _ => Flow.kept_eqs _ _) (Flow.met_none rfl) (fun a W hH => ?_) ?_
              · have e0 := Flow.see_new 87 17 hH.sees (by kernel_rfl) (by kernel_rfl) rfl rfl
                refine Reg.wp_call rfl Try.func79 rfl (by kernel_rfl) (by simp [Act.eval, e0]) (mWide_any r.dt hr.out.dt W) ?_
                rintro e w' ⟨rfl, hB⟩
                exact ⟨_, rfl, _, rfl, hB, rfl⟩
              apply Flow.pass_val (hm := (Flow.met_none rfl))
              · intro a W hH
                have e0 := Flow.see_old 9 hH.sees (by kernel_rfl) (by kernel_rfl) rfl
                go_simp; first | done | rfl
              refine Flow.pass_val (.int .u32 (r.cpus : Nat)) (Flow.met_none rfl) (fun a W hH => ?_) ?_
              · have e0 := Flow.see_new 89 19 hH.sees (by kernel_rfl) (by kernel_rfl) rfl rfl
                have fa5 : (fun W => Blk W wr.heap.size 132 (gstCells r).toArray) W := hH.fact _ (List.mem_of_getElem? (i := 5) rfl) rfl
                have c := fa5.cell 5; simp only [gstCells] at c; go_simp
              refine Flow.pass_val (.int .u64 (r.cpus : Nat)) (Flow.met_none rfl) (fun a W hH => ?_) ?_
              · have e0 := Flow.see_new 90 20 hH.sees (by kernel_rfl) (by kernel_rfl) rfl rfl
                go_simp; first | done | exact hcu
              refine Flow.pass_step (Reg.eqs (.string ⟨(wideStr r.cpus).toArray⟩)) (fun _ _ => Flow.kept_eqs _ _) (Flow.met_none rfl) (fun a W hH => ?_) ?_
              · have e0 := Flow.see_new 91 21 hH.sees (by kernel_rfl) (by kernel_rfl) rfl rfl
                refine Reg.wp_call rfl Try.func79 rfl (by kernel_rfl) (by simp [Act.eval, e0]) (mWide_any r.cpus (Nat.lt_of_lt_of_le hr.out.cpus (by decide)) W) ?_
                rintro e w' ⟨rfl, hB⟩
                exact ⟨_, rfl, _, rfl, hB, rfl⟩
              refine Flow.pass_lin [24] (fun v W => ∃ b, v = .slice (some ⟨b, 0, none⟩) 12 12 ∧ Blk W b 9 ((gstW r).map strV).toArray) (Flow.kept_lin [24] (fun _ _ _ c ⟨b, h1, h2⟩ => ⟨b, h1, h2.chg c id⟩) (Flow.lz_cons (fun _ => .inl rfl) Flow.lz_nil)) (Flow.met_none rfl) (fun a W hH => ?_) ?_
              · have e0 := Flow.see_new 75 5 hH.sees (by kernel_rfl) (by kernel_rfl) rfl rfl
                have e1 := Flow.see_new 79 9 hH.sees (by kernel_rfl) (by kernel_rfl) rfl rfl
                have e2 := Flow.see_new 82 12 hH.sees (by kernel_rfl) (by kernel_rfl) rfl rfl
                have e3 := Flow.see_new 85 15 hH.sees (by kernel_rfl) (by kernel_rfl) rfl rfl
                have e4 := Flow.see_new 88 18 hH.sees (by kernel_rfl) (by kernel_rfl) rfl rfl
                have e5 := Flow.see_new 92 22 hH.sees (by kernel_rfl) (by kernel_rfl) rfl rfl
                refine Flow.wp_run (Flow.reg_buildSlice _ rfl (by simp [Act.eval, strV, e0, e1, e2, e3, e4, e5]) (run_strs W 12 (gstW r) _ rfl (by decide) (by decide) rfl)) ?_
                exact ⟨_, rfl, Chg.of_ext ((Ext.refl W).alloc _), W.heap.size, rfl, Blk.new _ _ _⟩
              refine Flow.pass_gen (fun v W => v = .tuple #[] ∧ Pg G (lk ++ [joinWs (gstW r)]) W ∧ Blk W X 75 M) (Flow.kept_of (fun _ _ _ c ⟨h0, h1, h2⟩ => ⟨h0, h1.ext c, h2.chg c id⟩) (Flow.kz_cons (Flow.no_follow (by kernel_rfl)) Flow.kz_nil)) (Flow.met_none rfl) (fun a W hH => ?_) ?_
              · have e0 := Flow.see_new 72 2 hH.sees (by kernel_rfl) (by kernel_rfl) rfl rfl
                obtain ⟨b1, e1, q1⟩ := Flow.see_lin 93 23 hH.sees (by kernel_rfl) (by kernel_rfl) rfl rfl (by kernel_rfl)
                have fa6 : (fun W => Pg G lk W ∧ Blk W X 75 M) W := hH.fact _ (List.mem_of_getElem? (i := 6) rfl) rfl
                refine Flow.wp_callZ rfl Try.func64 rfl (by kernel_rfl) (by simp [Act.eval, e0, e1]) (put_pg G b1 lk (gstW r) W fa6.1 q1 hlk 12 (Lib.hid rfl) (by omega) (gstW_len r hr.out)) ?_
                rintro e w' ⟨rfl, h1, hB, h2⟩
                exact ⟨_, rfl, Chg.of_below hB (fun k hk _ => hk), rfl, h1, h2 _ _ _ (by decide) hXG fa6.2⟩
              refine Flow.pass_end [none, none, none, none, none, none, none, none, none, none, none, none, none, none, none, none, none, none, none, none, none, none, none, none, none, none, none, none, none, none, none, none, none, none, none, none, none, none, none, none, none, none, none, none, none, none, none, none, none, none, none, none, none, none, none, none, none, none, none, none, none, none, none, none, none, none, none, none, none, none, some 70, some 71, some 72, some 73, some 74, some 75, some 76, some 77, some 78, some 79, some 80, some 81, some 82, some 83, some 84, some 85, some 86, some 87, some 88, some 89, some 90, some 91, some 92, some 93, some 94, none] (by kernel_rfl) ?_
              intro f gg w9 hB hfa hT hfg
              have h94 := hT 24 _ (by kernel_rfl) rfl
              rw [← hfg 94 24 (by kernel_rfl)] at h94
              obtain ⟨_, hpk, hxk⟩ := h94
              have B9 := B3.drew.trans hB
              clear hfa hT hfg hB B3 hy
              simp only [Reg.sel]
              go_wp2
              go_roundw
              case rel => ((repeat apply Exists.intro); refine ⟨?_, rfl⟩; exact ⟨k + 1, by omega, by go_num, by rw [List.take_succ_eq_append_getElem hkl, List.map_append, ← List.append_assoc, ← Hlk.out, List.map_cons, List.map_nil, ← Hr.out]; exact hpk, hxk, B9⟩)
              case measure => simp [intOf]; omega
            · have hke : k = n7 := by omega
              subst hke
              rw [List.take_of_length_le (by rw [hgst.out]; exact Nat.le_refl _)] at hpk
              go_wp2_with fail
              go_end0
              refine ⟨rfl, ?_, hBk⟩
              rw [Hl3.out, Hl2.out, Hl1.out] at hpk
              simpa only [manLines, List.append_assoc] using hpk
end Go.Proofs.Ytnjfghlgknnhmaa
