/-
  Walk: mach.NewMem.
-/
import Derived.Test.YtjfmgoickokbjaaMaI
namespace Go.Proofs.Ytjfmgoickokbjaa
open Go.RowKit

/-- a chunk: where, and the slice that holds its bytes -/
structure Ck where
  at_ : Nat
  A : Option Addr
  n : Nat
  c : Nat
  l : List UInt8
def Ck.cells (k : Ck) : List Value := [.int .u64 (k.at_ : Int), .slice k.A k.n k.c]
def ccells (l : List Ck) : List Value := l.flatMap Ck.cells
structure Ck.ok (w : World) (B : Nat) (k : Ck) : Prop where
  at_ : k.at_ < 18446744073709551616
  cap : k.n ≤ k.c ∧ k.c ≤ 9223372036854775807
  rd : Rd w B 1 k.A k.n (bcells k.l)
theorem Ck.ok.len {w : World} {B : Nat} {k : Ck} (h : k.ok w B) : k.n = k.l.length := by have := h.rd.len; rw [bcells_length] at this; omega
theorem ccells_length (l : List Ck) : (ccells l).length = l.length * 2 := by
  induction l with
  | nil => rfl
  | cons s l ih => simp only [ccells, List.flatMap_cons, List.length_append] at *; rw [ih]; simp [Ck.cells]; omega
theorem ccells_get : ∀ (l : List Ck) (k : Nat) (s : Ck), l[k]? = some s → ((ccells l).drop (k * 2)).take 2 = s.cells
  | [], k, s, h => by simp at h
  | x :: l, 0, s, h => by
    simp at h; subst h
    simp [ccells, Ck.cells]
  | x :: l, k + 1, s, h => by
    have := ccells_get l k s (by simpa using h)
    simp only [ccells, List.flatMap_cons]
    rw [show (k + 1) * 2 = 2 + k * 2 by omega, ← List.drop_drop, List.drop_left' (by simp [Ck.cells])]
    exact this
theorem rd_chunk {w : World} {B n : Nat} {b off : Nat} {l : List Ck} (h : Rd w B 2 (some ⟨b, off, none⟩) n (ccells l)) (k : Nat) (s : Ck) (hk : l[k]? = some s) : w.rangeAt b (off + k * 2) s.cells := by
  obtain ⟨hlt, _⟩ := List.getElem?_eq_some_iff.1 hk
  have hn : n = l.length := by have := h.len; rw [ccells_length] at this; omega
  obtain ⟨b', off', e, _, hr⟩ := h.range (by omega)
  cases e
  intro j v hv
  have hg := ccells_get l k s hk
  have hv2 : (ccells l)[k * 2 + j]? = some v := by
    have h1 : (((ccells l).drop (k * 2)).take 2)[j]? = some v := by rw [hg]; exact hv
    rw [List.getElem?_take] at h1
    split at h1
    · rwa [List.getElem?_drop] at h1
    · cases h1
  have := hr (k * 2 + j) v hv2
  rwa [← Nat.add_assoc] at this

/-- chunks written one behind the other -/
def fillM (ram : Sp) : List Ck → Mm → Int × Mm
  | [], m => (0, m)
  | k :: r, m => if askErr ram k.at_ k.l.length = 0 then fillM ram r (writeM m k.at_ k.l) else (askErr ram k.at_ k.l.length, m)
theorem fillM_snoc (ram : Sp) (k : Ck) : ∀ (J : List Ck) (m : Mm), (fillM ram J m).1 = 0 → fillM ram (J ++ [k]) m = if askErr ram k.at_ k.l.length = 0 then (0, writeM (fillM ram J m).2 k.at_ k.l) else (askErr ram k.at_ k.l.length, (fillM ram J m).2)
  | [], m, _ => by simp [fillM]
  | x :: r, m, h => by
    by_cases hx : askErr ram x.at_ x.l.length = 0
    · simp only [List.cons_append, fillM, if_pos hx] at h ⊢
      exact fillM_snoc ram k r _ h
    · simp only [fillM, if_neg hx] at h
      exact absurd h hx
theorem fillM_bad (ram : Sp) : ∀ (J J2 : List Ck) (m : Mm), (fillM ram J m).1 ≠ 0 → (fillM ram (J ++ J2) m).1 = (fillM ram J m).1
  | [], J2, m, h => by simp [fillM] at h
  | x :: r, J2, m, h => by
    by_cases hx : askErr ram x.at_ x.l.length = 0
    · simp only [List.cons_append, fillM, if_pos hx] at h ⊢
      exact fillM_bad ram r J2 _ h
    · simp only [List.cons_append, fillM, if_neg hx]
def zeroM : Mm := fun _ => 0
def ramOk (ram : Sp) : Bool := ram.pages && decide (ram.last < 1099511627776)
theorem ramOk_40 {ram : Sp} (h : ramOk ram = true) : ram.base + ram.size ≤ 1099511627776 := by
  simp only [ramOk, Bool.and_eq_true, decide_eq_true_eq, Sp.pages] at h
  have h1 := Sp.good_iff.1 h.1.1
  have h2 := h.2
  rw [Sp.last, if_pos h.1.1] at h2
  omega
def newErr (ram : Sp) (J : List Ck) : Int := if ramOk ram then (fillM ram J zeroM).1 else 1
def newM (ram : Sp) (J : List Ck) : Mm := (fillM ram J zeroM).2
theorem infCk : (Try.prog.info? 78).map (·.size) = some 2 := by kernel_rfl
theorem zeroCk (w : World) : (zeroValue 78).run Try.prog w = .ok (.agg #[.int .u64 0, .slice none 0 0]) w := by kernel_rfl
theorem run_mem (w : World) (ram : Sp) (b : Nat) : (Instr.build 83 #[(0, .agg ram.cells), (1, .map (some b))]).run Try.prog w = .ok (.agg #[.int .u64 (ram.base : Int), .int .u64 (ram.size : Int), .map (some b)]) w := by
  have hl : (flat [.agg ram.cells, .map (some b)]) = [.int .u64 (ram.base : Int), .int .u64 (ram.size : Int), .map (some b)] := by simp [flat, Value.cells, Sp.cells]
  have := run_build_rows (P := Try.prog) w (t := 83) (z := #[.int .u64 0, .int .u64 0, .map none]) #[(0, .agg ram.cells), (1, .map (some b))] [.agg ram.cells, .map (some b)] [(0, 2), (2, 1)]
    Try.underlying83 (by kernel_rfl) (by kernel_rfl) rfl (by simp [Rows1, Value.cells, Sp.cells]) (by rw [hl]; exact Nat.le_refl _)
  rw [hl] at this
  exact this
def NewRet (w : World) (ram : Sp) (J : List Ck) (N : Nat) (e : Ending) (w' : World) : Prop :=
  Below w.heap.size w w' ∧ ((newErr ram J ≠ 0 ∧ e = .returned (.tuple #[.pointer none, .int .i64 (newErr ram J)])) ∨
    (newErr ram J = 0 ∧ ∃ p F, e = .returned (.tuple #[.pointer (some ⟨p, 0, none⟩), .int .i64 0]) ∧ PMem w' p ram (newM ram J) F N ∧ ∀ b, F b → w.heap.size ≤ b))
/-- a new Mem: nothing was written -/
theorem pm_new (w W : World) (ram : Sp) (bm p : Nat) (hb : Blk W p 83 #[.int .u64 (ram.base : Int), .int .u64 (ram.size : Int), .map (some bm)]) (hm : W.ownsMap Try.prog 22 pgE bm 0 (.map [])) (hp : w.heap.size ≤ p) (hbm : w.heap.size ≤ bm) :
    ∃ F, PM W p ram zeroM F 0 bm (.map []) (fun _ => none) ∧ ∀ b, F b → w.heap.size ≤ b :=
  ⟨fun b => b = p ∨ b = bm, ⟨hb, hm, fun _ _ _ => rfl, fun _ _ h => (by cases h), fun _ _ _ _ => rfl, fun _ _ _ h => (by cases h), .inl rfl, .inr rfl, by
    rintro b (rfl | rfl)
    · exact hb.lt
    · exact hm.lt⟩, by
    rintro b (rfl | rfl)
    · exact hp
    · exact hbm⟩

set_option maxRecDepth 100000 in
set_option maxHeartbeats 2000000 in
theorem mnew_any (ram : Sp) (okr : ram.ok) (A : Option Addr) (n c : Nat) (J : List Ck) (hJ : ∀ k ∈ J, k.l.length ≤ 5000) (hn10 : n ≤ 10) (w : World) (hR : Rd w w.heap.size 2 A n (ccells J)) (hok : ∀ k ∈ J, k.ok w w.heap.size) :
    Calls Try.prog 12 #[.agg ram.cells, .slice A n c] w (NewRet w ram J (n * 5000)) := by
  have hb := Blk.new w 24 ram.cells
  have B0 : Below w.heap.size w (w.alloc (.cells ram.cells 24)) := (Below.refl _ _).alloc (Nat.le_refl _) _
  have hJn : n = J.length := by have := hR.len; rw [ccells_length] at this; omega
  have HJN := Lib.hid hJn
  have HJ := Lib.hid hJ
  have HOK := Lib.hid hok
  clear hJn hJ hok
  go_enter Try.func12, Try.ntmps12
  go_wp2_with (first
    | ((with_reducible refine at_load 24 ?_); refine wpList_loadAllW _ rfl 24 _ rfl w.heap.size 24 ram.cells hb _ rfl Try.underlying24 rfl infSpan ?_)
    | ((with_reducible refine at_buildSlice 110 ?_); refine wpList_runV rfl (Flow.reg_buildSlice #[(0, .agg ram.cells)] rfl (by simp [Act.eval, Act.put]) (run_spans1 _ ram)) ?_))
  have hs0 : (w.alloc (.cells ram.cells 24)).heap.size = w.heap.size + 1 := by simp
  generalize w.alloc (.cells ram.cells 24) = W0 at *
  have hbs := Blk.new W0 24 (scells [ram]).toArray
  have B1 := B0.alloc B0.size (.cells (scells [ram]).toArray 24)
  have hb1 := hb.alloc (.cells (scells [ram]).toArray 24)
  have hpg := mpages_any W0.heap.size 0 1 1 [ram] (by intro x hx; obtain rfl := List.mem_singleton.1 hx; exact okr) _ (hbs.rd rfl) (by omega)
  rw [hs0] at hpg
  clear hbs hb B0 hs0
  generalize W0.alloc (.cells (scells [ram]).toArray 24) = W1 at *
  refine hpg.mono ?_
  rintro e W2 ⟨rfl, hB2⟩
  have hb2 := hb1.below hB2 hb1.lt
  have B2 := B1.trans (hB2.mono B1.size)
  have e0 : [ram].all Sp.pages = ram.pages := by simp
  rw [e0]
  clear hpg hb1 B1 hB2 e0
  cases hp : ram.pages with
  | false =>
    have he : Hid (newErr ram J = 1) := Lib.hid (by rw [newErr, ramOk, hp]; rfl)
    clear hp
    go_wp2
    go_ret2
    exact ⟨B2, .inl ⟨by rw [he.out]; decide, by rw [he.out]; rfl⟩⟩
  | true =>
    go_wp2_with ((with_reducible refine at_load 24 ?_); refine wpList_loadAllW _ rfl 24 _ rfl w.heap.size 24 ram.cells hb2 _ rfl Try.underlying24 rfl infSpan ?_)
    refine (last_any ram okr W2).mono ?_
    rintro e W3 ⟨rfl, hB3⟩
    obtain ⟨L, hL⟩ : ∃ L, L = ram.last := ⟨_, rfl⟩
    rw [← hL]
    have hb3 := hb2.below hB3 hb2.lt
    have B3 := B2.trans (hB3.mono B2.size)
    clear hb2 B2 hB3
    by_cases hge : 1099511627776 ≤ L
    · have hd : decide ((1099511627776 : Int) ≤ (L : Int)) = true := decide_eq_true (by omega)
      have he : Hid (newErr ram J = 1) := Lib.hid (by rw [newErr, ramOk, hp, decide_eq_false (by omega)]; rfl)
      clear hge hp hL
      go_wp2
      go_ret2
      exact ⟨B3, .inl ⟨by rw [he.out]; decide, by rw [he.out]; rfl⟩⟩
    · have hd : decide ((1099511627776 : Int) ≤ (L : Int)) = false := decide_eq_false (by omega)
      have hrk : ramOk ram = true := by rw [ramOk, hp, decide_eq_true (by omega)]; rfl
      have hr40 := ramOk_40 hrk
      have he : Hid (newErr ram J = (fillM ram J zeroM).1) := Lib.hid (by rw [newErr, if_pos hrk])
      have hmm := @run_makeMap Try.prog
      clear hge hp hL hrk
      go_wp2_with (first
        | ((with_reducible refine at_load 24 ?_); refine wpList_loadAllW _ rfl 24 _ rfl w.heap.size 24 ram.cells hb3 _ rfl Try.underlying24 rfl infSpan ?_)
        | ((with_reducible refine at_build 83 ?_); refine wpList_buildV _ rfl #[(0, .agg ram.cells), (1, .map (some W3.heap.size))] rfl (by simp [Act.eval]) (run_mem _ ram _) ?_))
      have hbm := World.ownsMap_made (H := Unit) W3 Try.prog 22 pgE
      have hbp := Blk.new (W3.alloc (.map #[] 0)) 83 #[.int .u64 (ram.base : Int), .int .u64 (ram.size : Int), .map (some W3.heap.size)]
      rw [World.size_alloc] at hbp
      obtain ⟨F0, hP0, hF0⟩ := pm_new w _ ram W3.heap.size (W3.heap.size + 1) hbp (hbm.alloc _) (by have := B3.size; omega) B3.size
      have B4 := (B3.alloc B3.size (.map #[] 0)).alloc (by simp; have := B3.size; omega) (.cells #[.int .u64 (ram.base : Int), .int .u64 (ram.size : Int), .map (some W3.heap.size)] 83)
      generalize (W3.alloc (.map #[] 0)).alloc (.cells #[.int .u64 (ram.base : Int), .int .u64 (ram.size : Int), .map (some W3.heap.size)] 83) = W4 at *
      have hPM0 : PMem W4 (W3.heap.size + 1) ram zeroM F0 0 := ⟨_, _, _, hP0⟩
      generalize W3.heap.size + 1 = p at *
      clear hbm hbp hP0 hb3 B3 hmm
      have hz := zeroCk
      go_loopw [25] (fun v wr => ∃ k : Nat, k ≤ n ∧ v = .int .i64 k ∧ Below w.heap.size w wr ∧ Hid ((fillM ram (J.take k) zeroM).1 = 0) ∧ ∃ F, PMem wr p ram (fillM ram (J.take k) zeroM).2 F (k * 5000) ∧ ∀ b, F b → w.heap.size ≤ b) (fun v _ => n - (intOf v).toNat)
      case atStart => exact ⟨0, Nat.zero_le _, rfl, B4, Lib.hid rfl, F0, hPM0, hF0⟩
      case round =>
        obtain ⟨k, hk, rfl, hB, hf0, F, hP, hF⟩ := hrel
        by_cases hlt : k < n
        · obtain ⟨x, hx⟩ : ∃ x, J[k]? = some x := ⟨_, List.getElem?_eq_getElem (by rw [← HJN.out]; exact hlt)⟩
          have hxo := HOK.out x (List.mem_of_getElem? hx)
          have hxl := HJ.out x (List.mem_of_getElem? hx)
          have hxa := hxo.at_
          have hxn := hxo.len
          have HXN := Lib.hid hxn
          have hRx := hxo.rd
          have hxc := hxo.cap
          have hxn5 : x.n ≤ 5000 := by omega
          have hsn := fillM_snoc ram x (J.take k) zeroM hf0.out
          have htk : J.take (k + 1) = J.take k ++ [x] := by rw [List.take_add_one, hx]; rfl
          rw [← htk] at hsn
          have HSN := Lib.hid hsn
          have HBAD : Hid ((fillM ram (J.take (k + 1)) zeroM).1 ≠ 0 → newErr ram J = (fillM ram (J.take (k + 1)) zeroM).1) := Lib.hid (fun h => by
            have h1 := fillM_bad ram (J.take (k + 1)) (J.drop (k + 1)) zeroM h
            rw [List.take_append_drop] at h1
            rw [he.out, h1])
          obtain ⟨ba, bo, rfl, _, _⟩ := hR.range (by omega)
          have hrng := rd_chunk (hR.below hB) k x hx
          have hC := fun W F' h1 h2 h3 h4 => mwrite_any p ram okr hr40 (fillM ram (J.take k) zeroM).2 F' (k * 5000) x.at_ x.A x.n x.c x.l hxa HXN.out hxc.1 hxc.2 h1 W h2 h3 h4
          obtain ⟨M, hM⟩ : ∃ M, M = (fillM ram (J.take k) zeroM).2 := ⟨_, rfl⟩
          rw [← hM] at hP hC
          have HM := Lib.hid hM
          have hcz := Blk.new wr 78 #[.int .u64 0, .slice none 0 0]
          clear hxn hsn htk hM hx hxo
          go_wp2_with (first
            | ((with_reducible refine at_load 78 ?_); refine wpList_load_mid rfl 78 _ rfl ba (bo + k * 2) rfl x.cells _ hrng Try.underlying78 rfl infCk ?_)
            | ((with_reducible refine at_store 78 ?_); refine wpList_storeAll _ rfl 78 _ _ rfl wr.heap.size 78 _ x.cells.toArray hcz rfl rfl rfl infCk (by intro v hv; simp only [Ck.cells, List.mem_cons, List.not_mem_nil, or_false] at hv; rcases hv with rfl | rfl <;> rfl) ?_; intro w3 hb3 hg3 hs3; have cc0 : w3.cell? ⟨wr.heap.size, 0, none⟩ = some (.int .u64 (x.at_ : Int)) := (hb3.cell 0).trans rfl; have cc1 : w3.cell? ⟨wr.heap.size, 1, none⟩ = some (.slice x.A x.n x.c) := (hb3.cell 1).trans rfl))
          have hB3 := grown_below (hB.alloc hB.size (.cells #[.int .u64 0, .slice none 0 0] 78)) hg3 (by simp; have := hB.size; omega) hB.size
          have hP3 : PMem w3 p ram M F (k * 5000) := hP.keep (by rw [hs3]; simp) (fun b hb hlb => (hg3.block b (by simp; omega) (fun e => by cases e; exact Nat.lt_irrefl _ hlb)).trans (Below.heap_alloc wr _ b hlb))
          have hcall := hC w3 F (by simp only [maxLen]; omega) ((hRx.below hB3).more hB3.size) (fun h0 y hy hFy => by
            obtain ⟨b, off, e, h1, _⟩ := hRx.range (by omega)
            rw [hy] at e
            cases e
            exact absurd (hF _ hFy) (Nat.not_le.2 h1)) hP3
          clear hC hP hcz hg3 hs3 cc0 cc1 hb3 hRx hrng hB
          refine hcall.mono ?_
          rintro e w5 ⟨rfl, F5, hP5, hC5, h51, h52⟩
          have B5 := hB3.trans (hC5.below hF hB3.size)
          have hF5 : ∀ b, F5 b → w.heap.size ≤ b := fun b hb => by
            rcases h52 b hb with h6 | h6
            · exact hF b h6
            · exact Nat.le_trans hB3.size h6
          obtain ⟨E, hE⟩ : ∃ E, E = askErr ram x.at_ x.n := ⟨_, rfl⟩
          rw [← hE]
          clear hcall hB3 hP3 hC5 h51 h52
          by_cases h0 : E = 0
          · have hq : askErr ram x.at_ x.l.length = 0 := by rw [← HXN.out, ← hE]; exact h0
            have hV : Hid ((fillM ram (J.take (k + 1)) zeroM).1 = 0 ∧ (fillM ram (J.take (k + 1)) zeroM).2 = writeV ram M x.at_ x.l) := Lib.hid (by rw [HSN.out, if_pos hq, writeV, if_pos hq, HM.out]; exact ⟨rfl, rfl⟩)
            clear hE hq HBAD HSN
            subst h0
            go_wp2
            go_roundw
            case rel => exact ⟨k + 1, by omega, by go_num, B5, Lib.hid hV.out.1, F5, by rw [hV.out.2]; exact hP5.more (by omega), hF5⟩
            case measure => simp [intOf]; omega
          · have hq : ¬ askErr ram x.at_ x.l.length = 0 := by rw [← HXN.out, ← hE]; exact h0
            have hV : Hid (newErr ram J = E) := Lib.hid (by
              have h1 : (fillM ram (J.take (k + 1)) zeroM).1 = E := by rw [HSN.out, if_neg hq, ← HXN.out, ← hE]
              rw [HBAD.out (by rw [h1]; exact h0), h1])
            have H0 := Lib.hid h0
            have hne : (E != 0) = true := by simpa using h0
            clear hE hq HBAD HSN h0
            go_wp2
            go_ret2
            exact ⟨B5, .inl ⟨by rw [hV.out]; exact H0.out, by rw [hV.out]; rfl⟩⟩
        · obtain rfl : k = n := by omega
          have hJall : J.take k = J := List.take_of_length_le (by rw [HJN.out]; exact Nat.le_refl _)
          rw [hJall] at hP hf0
          go_wp2
          go_ret2
          exact ⟨hB, .inr ⟨by rw [he.out]; exact hf0.out, p, F, rfl, hP, hF⟩⟩
end Go.Proofs.Ytjfmgoickokbjaa
