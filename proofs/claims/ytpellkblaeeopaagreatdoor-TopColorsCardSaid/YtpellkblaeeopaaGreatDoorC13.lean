/-
  Parts: MaJ MaK MaL Num2 MaN.
-/
import Derived.Test.YtpellkblaeeopaaGreatDoorC12
import Derived.Test.YtpellkblaeeopaaGreatDoorC08
/-
  Walk: mach.NewMem.
-/
namespace Go.Proofs.YtpellkblaeeopaaGreatDoor
open Go.RowKit

/-- a chunk: where, and the slice that holds its bytes -/
structure Ck where
  at_ : Nat
  A : Option Addr
  n : Nat
  c : Nat
  l : List UInt8
def Ck.cells (k : Ck) : List Value := [.int .u64 (k.at_ : Int), .slice k.A k.n k.c]
def ccells (l : List Ck) : List Value := l.flatMap Ck.cells
structure Ck.ok (w : World) (B : Nat) (k : Ck) : Prop where
  at_ : k.at_ < 18446744073709551616
  cap : k.n ≤ k.c ∧ k.c ≤ 9223372036854775807
  rd : Rd w B 1 k.A k.n (bcells k.l)
theorem Ck.ok.len {w : World} {B : Nat} {k : Ck} (h : k.ok w B) : k.n = k.l.length := by have := h.rd.len; rw [bcells_length] at this; omega
theorem ccells_length (l : List Ck) : (ccells l).length = l.length * 2 := by
  induction l with
  | nil => rfl
  | cons s l ih => simp only [ccells, List.flatMap_cons, List.length_append] at *; rw [ih]; simp [Ck.cells]; omega
theorem ccells_get : ∀ (l : List Ck) (k : Nat) (s : Ck), l[k]? = some s → ((ccells l).drop (k * 2)).take 2 = s.cells
  | [], k, s, h => by simp at h
  | x :: l, 0, s, h => by
    simp at h; subst h
    simp [ccells, Ck.cells]
  | x :: l, k + 1, s, h => by
    have := ccells_get l k s (by simpa using h)
    simp only [ccells, List.flatMap_cons]
    rw [show (k + 1) * 2 = 2 + k * 2 by omega, ← List.drop_drop, List.drop_left' (by simp [Ck.cells])]
    exact this
theorem rd_chunk {w : World} {B n : Nat} {b off : Nat} {l : List Ck} (h : Rd w B 2 (some ⟨b, off, none⟩) n (ccells l)) (k : Nat) (s : Ck) (hk : l[k]? = some s) : w.rangeAt b (off + k * 2) s.cells := by
  obtain ⟨hlt, _⟩ := List.getElem?_eq_some_iff.1 hk
  have hn : n = l.length := by have := h.len; rw [ccells_length] at this; omega
  obtain ⟨b', off', e, _, hr⟩ := h.range (by omega)
  cases e
  intro j v hv
  have hg := ccells_get l k s hk
  have hv2 : (ccells l)[k * 2 + j]? = some v := by
    have h1 : (((ccells l).drop (k * 2)).take 2)[j]? = some v := by rw [hg]; exact hv
    rw [List.getElem?_take] at h1
    split at h1
    · rwa [List.getElem?_drop] at h1
    · cases h1
  have := hr (k * 2 + j) v hv2
  rwa [← Nat.add_assoc] at this

/-- chunks written one behind the other -/
def fillM (ram : Sp) : List Ck → Mm → Int × Mm
  | [], m => (0, m)
  | k :: r, m => if askErr ram k.at_ k.l.length = 0 then fillM ram r (writeM m k.at_ k.l) else (askErr ram k.at_ k.l.length, m)
theorem fillM_snoc (ram : Sp) (k : Ck) : ∀ (J : List Ck) (m : Mm), (fillM ram J m).1 = 0 → fillM ram (J ++ [k]) m = if askErr ram k.at_ k.l.length = 0 then (0, writeM (fillM ram J m).2 k.at_ k.l) else (askErr ram k.at_ k.l.length, (fillM ram J m).2)
  | [], m, _ => by simp [fillM]
  | x :: r, m, h => by
    by_cases hx : askErr ram x.at_ x.l.length = 0
    · simp only [List.cons_append, fillM, if_pos hx] at h ⊢
      exact fillM_snoc ram k r _ h
    · simp only [fillM, if_neg hx] at h
      exact absurd h hx
theorem fillM_bad (ram : Sp) : ∀ (J J2 : List Ck) (m : Mm), (fillM ram J m).1 ≠ 0 → (fillM ram (J ++ J2) m).1 = (fillM ram J m).1
  | [], J2, m, h => by simp [fillM] at h
  | x :: r, J2, m, h => by
    by_cases hx : askErr ram x.at_ x.l.length = 0
    · simp only [List.cons_append, fillM, if_pos hx] at h ⊢
      exact fillM_bad ram r J2 _ h
    · simp only [List.cons_append, fillM, if_neg hx]
def zeroM : Mm := fun _ => 0
def ramOk (ram : Sp) : Bool := ram.pages && decide (ram.last < 1099511627776)
theorem ramOk_40 {ram : Sp} (h : ramOk ram = true) : ram.base + ram.size ≤ 1099511627776 := by
  simp only [ramOk, Bool.and_eq_true, decide_eq_true_eq, Sp.pages] at h
  have h1 := Sp.good_iff.1 h.1.1
  have h2 := h.2
  rw [Sp.last, if_pos h.1.1] at h2
  omega
def newErr (ram : Sp) (J : List Ck) : Int := if ramOk ram then (fillM ram J zeroM).1 else 1
def newM (ram : Sp) (J : List Ck) : Mm := (fillM ram J zeroM).2
theorem infCk : (Tryz.prog.info? 75).map (·.size) = some 2 := by kernel_rfl
theorem zeroCk (w : World) : (zeroValue 75).run Tryz.prog w = .ok (.agg #[.int .u64 0, .slice none 0 0]) w := by kernel_rfl
theorem run_mem (w : World) (ram : Sp) (b : Nat) : (Instr.build 72 #[(0, .agg ram.cells), (1, .map (some b))]).run Tryz.prog w = .ok (.agg #[.int .u64 (ram.base : Int), .int .u64 (ram.size : Int), .map (some b)]) w := by
  have hl : (flat [.agg ram.cells, .map (some b)]) = [.int .u64 (ram.base : Int), .int .u64 (ram.size : Int), .map (some b)] := by simp [flat, Value.cells, Sp.cells]
  have := run_build_rows (P := Tryz.prog) w (t := 72) (z := #[.int .u64 0, .int .u64 0, .map none]) #[(0, .agg ram.cells), (1, .map (some b))] [.agg ram.cells, .map (some b)] [(0, 2), (2, 1)]
    Tryz.underlying72 (by kernel_rfl) (by kernel_rfl) rfl (by simp [Rows1, Value.cells, Sp.cells]) (by rw [hl]; exact Nat.le_refl _)
  rw [hl] at this
  exact this
def NewRet (w : World) (ram : Sp) (J : List Ck) (N : Nat) (e : Ending) (w' : World) : Prop :=
  Below w.heap.size w w' ∧ ((newErr ram J ≠ 0 ∧ e = .returned (.tuple #[.pointer none, .int .i64 (newErr ram J)])) ∨
    (newErr ram J = 0 ∧ ∃ p F, e = .returned (.tuple #[.pointer (some ⟨p, 0, none⟩), .int .i64 0]) ∧ PMem w' p ram (newM ram J) F N ∧ ∀ b, F b → w.heap.size ≤ b))
/-- a new Mem: nothing was written -/
theorem pm_new (w W : World) (ram : Sp) (bm p : Nat) (hb : Blk W p 72 #[.int .u64 (ram.base : Int), .int .u64 (ram.size : Int), .map (some bm)]) (hm : W.ownsMap Tryz.prog 22 pgE bm 0 (.map [])) (hp : w.heap.size ≤ p) (hbm : w.heap.size ≤ bm) :
    ∃ F, PM W p ram zeroM F 0 bm (.map []) (fun _ => none) ∧ ∀ b, F b → w.heap.size ≤ b :=
  ⟨fun b => b = p ∨ b = bm, ⟨hb, hm, fun _ _ _ => rfl, fun _ _ h => (by cases h), fun _ _ _ _ => rfl, fun _ _ _ h => (by cases h), .inl rfl, .inr rfl, by
    rintro b (rfl | rfl)
    · exact hb.lt
    · exact hm.lt⟩, by
    rintro b (rfl | rfl)
    · exact hp
    · exact hbm⟩

set_option maxRecDepth 100000 in
set_option maxHeartbeats 2000000 in
theorem mnew_any (ram : Sp) (okr : ram.ok) (A : Option Addr) (n c : Nat) (J : List Ck) (hJ : ∀ k ∈ J, k.l.length ≤ 5000) (hn10 : n ≤ 10) (w : World) (hR : Rd w w.heap.size 2 A n (ccells J)) (hok : ∀ k ∈ J, k.ok w w.heap.size) :
    Calls Tryz.prog 5 #[.agg ram.cells, .slice A n c] w (NewRet w ram J (n * 5000)) := by
  have hb := Blk.new w 25 ram.cells
  have B0 : Below w.heap.size w (w.alloc (.cells ram.cells 25)) := (Below.refl _ _).alloc (Nat.le_refl _) _
  have hJn : n = J.length := by have := hR.len; rw [ccells_length] at this; omega
  have HJN := Lib.hid hJn
  have HJ := Lib.hid hJ
  have HOK := Lib.hid hok
  clear hJn hJ hok
  go_enter Tryz.func5, Tryz.ntmps5
  go_wp2_with (first
    | ((with_reducible refine at_load 25 ?_); refine wpList_loadAllW _ rfl 25 _ rfl w.heap.size 25 ram.cells hb _ rfl Tryz.underlying25 rfl infSpan ?_)
    | ((with_reducible refine at_buildSlice 34 ?_); refine wpList_runV rfl (Flow.reg_buildSlice #[(0, .agg ram.cells)] rfl (by simp [Act.eval, Act.put]) (run_spans1 _ ram)) ?_))
  have hs0 : (w.alloc (.cells ram.cells 25)).heap.size = w.heap.size + 1 := by simp
  generalize w.alloc (.cells ram.cells 25) = W0 at *
  have hbs := Blk.new W0 25 (scells [ram]).toArray
  have B1 := B0.alloc B0.size (.cells (scells [ram]).toArray 25)
  have hb1 := hb.alloc (.cells (scells [ram]).toArray 25)
  have hpg := mpages_any W0.heap.size 0 1 1 [ram] (by intro x hx; obtain rfl := List.mem_singleton.1 hx; exact okr) _ (hbs.rd rfl) (by omega)
  rw [hs0] at hpg
  clear hbs hb B0 hs0
  generalize W0.alloc (.cells (scells [ram]).toArray 25) = W1 at *
  refine hpg.mono ?_
  rintro e W2 ⟨rfl, hB2⟩
  have hb2 := hb1.below hB2 hb1.lt
  have B2 := B1.trans (hB2.mono B1.size)
  have e0 : [ram].all Sp.pages = ram.pages := by simp
  rw [e0]
  clear hpg hb1 B1 hB2 e0
  cases hp : ram.pages with
  | false =>
    have he : Hid (newErr ram J = 1) := Lib.hid (by rw [newErr, ramOk, hp]; rfl)
    clear hp
    go_wp2
    go_ret2
    exact ⟨B2, .inl ⟨by rw [he.out]; decide, by rw [he.out]; rfl⟩⟩
  | true =>
    go_wp2_with ((with_reducible refine at_load 25 ?_); refine wpList_loadAllW _ rfl 25 _ rfl w.heap.size 25 ram.cells hb2 _ rfl Tryz.underlying25 rfl infSpan ?_)
    refine (last_any ram okr W2).mono ?_
    rintro e W3 ⟨rfl, hB3⟩
    obtain ⟨L, hL⟩ : ∃ L, L = ram.last := ⟨_, rfl⟩
    rw [← hL]
    have hb3 := hb2.below hB3 hb2.lt
    have B3 := B2.trans (hB3.mono B2.size)
    clear hb2 B2 hB3
    by_cases hge : 1099511627776 ≤ L
    · have hd : decide ((1099511627776 : Int) ≤ (L : Int)) = true := decide_eq_true (by omega)
      have he : Hid (newErr ram J = 1) := Lib.hid (by rw [newErr, ramOk, hp, decide_eq_false (by omega)]; rfl)
      clear hge hp hL
      go_wp2
      go_ret2
      exact ⟨B3, .inl ⟨by rw [he.out]; decide, by rw [he.out]; rfl⟩⟩
    · have hd : decide ((1099511627776 : Int) ≤ (L : Int)) = false := decide_eq_false (by omega)
      have hrk : ramOk ram = true := by rw [ramOk, hp, decide_eq_true (by omega)]; rfl
      have hr40 := ramOk_40 hrk
      have he : Hid (newErr ram J = (fillM ram J zeroM).1) := Lib.hid (by rw [newErr, if_pos hrk])
      have hmm := @run_makeMap Tryz.prog
      clear hge hp hL hrk
      go_wp2_with (first
        | ((with_reducible refine at_load 25 ?_); refine wpList_loadAllW _ rfl 25 _ rfl w.heap.size 25 ram.cells hb3 _ rfl Tryz.underlying25 rfl infSpan ?_)
        | ((with_reducible refine at_build 72 ?_); refine wpList_buildV _ rfl #[(0, .agg ram.cells), (1, .map (some W3.heap.size))] rfl (by simp [Act.eval]) (run_mem _ ram _) ?_))
      have hbm := World.ownsMap_made (H := Unit) W3 Tryz.prog 22 pgE
      have hbp := Blk.new (W3.alloc (.map #[] 0)) 72 #[.int .u64 (ram.base : Int), .int .u64 (ram.size : Int), .map (some W3.heap.size)]
      rw [World.size_alloc] at hbp
      obtain ⟨F0, hP0, hF0⟩ := pm_new w _ ram W3.heap.size (W3.heap.size + 1) hbp (hbm.alloc _) (by have := B3.size; omega) B3.size
      have B4 := (B3.alloc B3.size (.map #[] 0)).alloc (by simp; have := B3.size; omega) (.cells #[.int .u64 (ram.base : Int), .int .u64 (ram.size : Int), .map (some W3.heap.size)] 72)
      generalize (W3.alloc (.map #[] 0)).alloc (.cells #[.int .u64 (ram.base : Int), .int .u64 (ram.size : Int), .map (some W3.heap.size)] 72) = W4 at *
      have hPM0 : PMem W4 (W3.heap.size + 1) ram zeroM F0 0 := ⟨_, _, _, hP0⟩
      generalize W3.heap.size + 1 = p at *
      clear hbm hbp hP0 hb3 B3 hmm
      have hz := zeroCk
      go_loopw [25] (fun v wr => ∃ k : Nat, k ≤ n ∧ v = .int .i64 k ∧ Below w.heap.size w wr ∧ Hid ((fillM ram (J.take k) zeroM).1 = 0) ∧ ∃ F, PMem wr p ram (fillM ram (J.take k) zeroM).2 F (k * 5000) ∧ ∀ b, F b → w.heap.size ≤ b) (fun v _ => n - (intOf v).toNat)
      case atStart => exact ⟨0, Nat.zero_le _, rfl, B4, Lib.hid rfl, F0, hPM0, hF0⟩
      case round =>
        obtain ⟨k, hk, rfl, hB, hf0, F, hP, hF⟩ := hrel
        by_cases hlt : k < n
        · obtain ⟨x, hx⟩ : ∃ x, J[k]? = some x := ⟨_, List.getElem?_eq_getElem (by rw [← HJN.out]; exact hlt)⟩
          have hxo := HOK.out x (List.mem_of_getElem? hx)
          have hxl := HJ.out x (List.mem_of_getElem? hx)
          have hxa := hxo.at_
          have hxn := hxo.len
          have HXN := Lib.hid hxn
          have hRx := hxo.rd
          have hxc := hxo.cap
          have hxn5 : x.n ≤ 5000 := by omega
          have hsn := fillM_snoc ram x (J.take k) zeroM hf0.out
          have htk : J.take (k + 1) = J.take k ++ [x] := by rw [List.take_add_one, hx]; rfl
          rw [← htk] at hsn
          have HSN := Lib.hid hsn
          have HBAD : Hid ((fillM ram (J.take (k + 1)) zeroM).1 ≠ 0 → newErr ram J = (fillM ram (J.take (k + 1)) zeroM).1) := Lib.hid (fun h => by
            have h1 := fillM_bad ram (J.take (k + 1)) (J.drop (k + 1)) zeroM h
            rw [List.take_append_drop] at h1
            rw [he.out, h1])
          obtain ⟨ba, bo, rfl, _, _⟩ := hR.range (by omega)
          have hrng := rd_chunk (hR.below hB) k x hx
          have hC := fun W F' h1 h2 h3 h4 => mwrite_any p ram okr hr40 (fillM ram (J.take k) zeroM).2 F' (k * 5000) x.at_ x.A x.n x.c x.l hxa HXN.out hxc.1 hxc.2 h1 W h2 h3 h4
          obtain ⟨M, hM⟩ : ∃ M, M = (fillM ram (J.take k) zeroM).2 := ⟨_, rfl⟩
          rw [← hM] at hP hC
          have HM := Lib.hid hM
          have hcz := Blk.new wr 75 #[.int .u64 0, .slice none 0 0]
          clear hxn hsn htk hM hx hxo
          go_wp2_with (first
            | ((with_reducible refine at_load 75 ?_); refine wpList_load_mid rfl 75 _ rfl ba (bo + k * 2) rfl x.cells _ hrng Tryz.underlying75 rfl infCk ?_)
            | ((with_reducible refine at_store 75 ?_); refine wpList_storeAll _ rfl 75 _ _ rfl wr.heap.size 75 _ x.cells.toArray hcz rfl rfl rfl infCk (by intro v hv; simp only [Ck.cells, List.mem_cons, List.not_mem_nil, or_false] at hv; rcases hv with rfl | rfl <;> rfl) ?_; intro w3 hb3 hg3 hs3; have cc0 : w3.cell? ⟨wr.heap.size, 0, none⟩ = some (.int .u64 (x.at_ : Int)) := (hb3.cell 0).trans rfl; have cc1 : w3.cell? ⟨wr.heap.size, 1, none⟩ = some (.slice x.A x.n x.c) := (hb3.cell 1).trans rfl))
          have hB3 := grown_below (hB.alloc hB.size (.cells #[.int .u64 0, .slice none 0 0] 75)) hg3 (by simp; have := hB.size; omega) hB.size
          have hP3 : PMem w3 p ram M F (k * 5000) := hP.keep (by rw [hs3]; simp) (fun b hb hlb => (hg3.block b (by simp; omega) (fun e => by cases e; exact Nat.lt_irrefl _ hlb)).trans (Below.heap_alloc wr _ b hlb))
          have hcall := hC w3 F (by simp only [maxLen]; omega) ((hRx.below hB3).more hB3.size) (fun h0 y hy hFy => by
            obtain ⟨b, off, e, h1, _⟩ := hRx.range (by omega)
            rw [hy] at e
            cases e
            exact absurd (hF _ hFy) (Nat.not_le.2 h1)) hP3
          clear hC hP hcz hg3 hs3 cc0 cc1 hb3 hRx hrng hB
          refine hcall.mono ?_
          rintro e w5 ⟨rfl, F5, hP5, hC5, h51, h52⟩
          have B5 := hB3.trans (hC5.below hF hB3.size)
          have hF5 : ∀ b, F5 b → w.heap.size ≤ b := fun b hb => by
            rcases h52 b hb with h6 | h6
            · exact hF b h6
            · exact Nat.le_trans hB3.size h6
          obtain ⟨E, hE⟩ : ∃ E, E = askErr ram x.at_ x.n := ⟨_, rfl⟩
          rw [← hE]
          clear hcall hB3 hP3 hC5 h51 h52
          by_cases h0 : E = 0
          · have hq : askErr ram x.at_ x.l.length = 0 := by rw [← HXN.out, ← hE]; exact h0
            have hV : Hid ((fillM ram (J.take (k + 1)) zeroM).1 = 0 ∧ (fillM ram (J.take (k + 1)) zeroM).2 = writeV ram M x.at_ x.l) := Lib.hid (by rw [HSN.out, if_pos hq, writeV, if_pos hq, HM.out]; exact ⟨rfl, rfl⟩)
            clear hE hq HBAD HSN
            subst h0
            go_wp2
            go_roundw
            case rel => exact ⟨k + 1, by omega, by go_num, B5, Lib.hid hV.out.1, F5, by rw [hV.out.2]; exact hP5.more (by omega), hF5⟩
            case measure => simp [intOf]; omega
          · have hq : ¬ askErr ram x.at_ x.l.length = 0 := by rw [← HXN.out, ← hE]; exact h0
            have hV : Hid (newErr ram J = E) := Lib.hid (by
              have h1 : (fillM ram (J.take (k + 1)) zeroM).1 = E := by rw [HSN.out, if_neg hq, ← HXN.out, ← hE]
              rw [HBAD.out (by rw [h1]; exact h0), h1])
            have H0 := Lib.hid h0
            have hne : (E != 0) = true := by simpa using h0
            clear hE hq HBAD HSN h0
            go_wp2
            go_ret2
            exact ⟨B5, .inl ⟨by rw [hV.out]; exact H0.out, by rw [hV.out]; rfl⟩⟩
        · obtain rfl : k = n := by omega
          have hJall : J.take k = J := List.take_of_length_le (by rw [HJN.out]; exact Nat.le_refl _)
          rw [hJall] at hP hf0
          go_wp2
          go_ret2
          exact ⟨hB, .inr ⟨by rw [he.out]; exact hf0.out, p, F, rfl, hP, hF⟩⟩
end Go.Proofs.YtpellkblaeeopaaGreatDoor
/-
  Walks: (*Mem).Put, (*Mem).Word.
-/
namespace Go.Proofs.YtpellkblaeeopaaGreatDoor
open Go.RowKit

theorem MAfter.from {w w1 w2 : World} {p : Nat} {ram : Sp} {m : Mm} {F : Nat → Prop} {N : Nat} (hB : Below w.heap.size w w1) (h : MAfter w1 w2 p ram m F N) : MAfter w w2 p ram m F N := by
  obtain ⟨F', h1, h2, h3, h4⟩ := h
  refine ⟨F', h1, ((Chg.of_ext hB : Chg F w w1)).trans h2, h3, fun b hb => ?_⟩
  rcases h4 b hb with h5 | h5
  · exact .inl h5
  · exact .inr (Nat.le_trans hB.size h5)
theorem MAfter.same {w w1 : World} {p : Nat} {ram : Sp} {m : Mm} {F : Nat → Prop} {N : Nat} (hB : Below w.heap.size w w1) (h : PMem w p ram m F N) : MAfter w w1 p ram m F N :=
  ⟨F, h.below hB (Nat.le_refl _), Chg.of_ext hB, fun _ h => h, fun _ h => .inl h⟩
theorem MAfter.more {w w1 : World} {p : Nat} {ram : Sp} {m : Mm} {F : Nat → Prop} {N N' : Nat} (h : MAfter w w1 p ram m F N) (hN : N ≤ N') : MAfter w w1 p ram m F N' := by
  obtain ⟨F', h1, h2⟩ := h; exact ⟨F', h1.more hN, h2⟩
def mputErr (ram : Sp) (a : Nat) : Int := if a % 8 = 0 then askErr ram a 8 else 90
def putV (ram : Sp) (m : Mm) (a x : Nat) : Mm := if a % 8 = 0 then writeV ram m a (putNum x 8 true) else m
theorem own_far {w : World} {base n : Nat} {e : TypeId} {A : Option Addr} {c : Nat} {xs : List Value} (h : w.ownsRow base e 1 (.slice A n c) n xs) {F : Nat → Prop} (hF : ∀ b, F b → b < base) : ∀ x, A = some x → ¬ F x.block := by
  intro x hx hf
  subst hx
  rcases h.2 with ⟨e1, _⟩ | ⟨g, cap, cur, e1, h1, _⟩
  · cases e1
  · cases e1
    exact absurd (hF _ hf) (Nat.not_lt.2 h1)
set_option maxRecDepth 100000 in
set_option maxHeartbeats 1000000 in
theorem mput_p (p : Nat) (ram : Sp) (okr : ram.ok) (hr40 : ram.base + ram.size ≤ 1099511627776) (m : Mm) (F : Nat → Prop) (N : Nat) (ad : Nat) (x : Nat) (had : ad < 18446744073709551616) (hN : N + 8 < maxLen) (w : World) (hM : PMem w p ram m F N) :
    Calls Tryz.prog 96 #[.pointer (some ⟨p, 0, none⟩), .int .u64 (ad : Int), .int .u64 (x : Int)] w fun e w' => e = .returned (.int .i64 (mputErr ram ad)) ∧ MAfterP w w' p ram (putV ram m ad x) F (N + 8) := by
  have HN := Lib.hid hN
  clear hN
  obtain ⟨r, hr⟩ : ∃ r, r = ad % 8 := ⟨_, rfl⟩
  have hr1 : (ad : Int) % 8 = (r : Int) := by omega
  by_cases h0 : r = 0
  · subst h0
    have he : Hid (mputErr ram ad = askErr ram ad 8) := Lib.hid (by rw [mputErr, if_pos hr.symm])
    have hv : Hid (putV ram m ad x = writeV ram m ad (putNum x 8 true)) := Lib.hid (by rw [putV, if_pos hr.symm])
    have hbk := Blk.new w 22 #[.int .u64 (x : Int)]
    have hBk : Below w.heap.size w (w.alloc (.cells #[.int .u64 (x : Int)] 22)) := (Below.refl _ _).alloc (Nat.le_refl _) _
    have hp := putLe64_any none 0 0 [] (w.alloc (.cells #[.int .u64 (x : Int)] 22)) (some ⟨w.heap.size, 0, none⟩) 1 1 [x] (Rd.nil _ _ _ _) (by omega) (hbk.rd rfl) (by omega)
    have e1 : putAll [x] 8 true = putNum x 8 true := by simp [putAll]
    simp only [Nat.zero_add, Nat.mul_one, List.nil_append, e1] at hp
    have hlen := putNum_length x 8 true
    obtain ⟨L, hL⟩ : ∃ L, L = putNum x 8 true := ⟨_, rfl⟩
    rw [← hL] at hp hlen hv
    have HLEN := Lib.hid hlen.symm
    clear hr hbk e1 hL hlen
    go_enter Tryz.func96, Tryz.ntmps96
    go_wp2_with fail
    refine hp.mono ?_
    rintro e w2 ⟨A, c, rfl, hO, hB2⟩
    have B2 := hBk.trans (hB2.mono hBk.size)
    have hM2 := hM.below B2 (Nat.le_refl _)
    have HBL : Hid (w2.heap[p]? = w.heap[p]?) := Lib.hid (B2.block p (by obtain ⟨_, _, _, h⟩ := hM; exact h.blk.lt))
    have hw := mwrite_p p ram okr hr40 m F N ad A 8 c L had HLEN.out (Flow.own_le hO) (by
      rcases hO.2 with ⟨e1, _⟩ | ⟨g, cap, cur, e1, _, _, _, h4, _⟩
      · cases e1
      · cases e1; simp only [maxLen] at h4; omega) HN.out w2 (Rd.of_own hO) (fun _ => own_far hO (fun b hb => Nat.lt_of_lt_of_le (hM.flt b hb) (by simp))) hM2
    clear hp hO
    go_wp2_with fail
    refine hw.mono ?_
    rintro e w3 ⟨rfl, hA⟩
    go_wp2
    go_ret
    exact ⟨ret_int he.out.symm, by rw [hv.out]; exact hA.1.from B2, hA.2.trans HBL.out⟩
  · have he : Hid (mputErr ram ad = 90) := Lib.hid (by rw [mputErr, if_neg (by omega)])
    have hv : Hid (putV ram m ad x = m) := Lib.hid (by rw [putV, if_neg (by omega)])
    have hne : ((r : Int) != 0) = true := by simp; omega
    clear hr h0
    go_enter Tryz.func96, Tryz.ntmps96
    go_wp2
    go_ret
    exact ⟨ret_int he.out.symm, by rw [hv.out]; exact MAfter.same (Below.refl _ _) (hM.more (by omega)), rfl⟩
def wordErr (ram : Sp) (a : Nat) : Int := if a % 8 = 0 ∧ askErr ram a 8 = 0 then 0 else 90
def wordV (ram : Sp) (m : Mm) (a : Nat) : Nat := if a % 8 = 0 ∧ askErr ram a 8 = 0 then rdNum (readM m a 8) 0 8 true else 0
theorem word_page (m : Mm) (a q o : Nat) (ha : a = 4096 * q + o) (ho : o + 8 ≤ 4096) : rdNum (pageOf m q) (o : Int) 8 true = rdNum (readM m a 8) 0 8 true := by
  have h1 : (0 : Int) ≤ (o : Int) ∧ (o : Int) + (8 : Nat) ≤ ((pageOf m q).length : Nat) := by rw [pageOf_length]; omega
  have h2 : (0 : Int) ≤ 0 ∧ (0 : Int) + (8 : Nat) ≤ ((readM m a 8).length : Nat) := by rw [readM_length]; omega
  rw [rdNum, rdNum, if_pos h1, if_pos h2]
  unfold readNum
  apply numOf_congr
  intro j hj
  rw [byteAt_low, byteAt_low]
  have e1 : (o : Int).toNat = o := by omega
  have e2 : (0 : Int).toNat = 0 := rfl
  rw [e1, e2, pageOf_get _ _ _ (by omega), readM_get _ _ _ _ (by omega), ha]
  have : 4096 * q + (o + 8 - 1 - j) = 4096 * q + o + (0 + 8 - 1 - j) := by omega
  rw [this]
theorem numOf_zero : ∀ k, numOf (fun _ => 0) k = 0
  | 0 => rfl
  | k + 1 => by rw [numOf, numOf_zero k]
theorem word_zero (m : Mm) (a : Nat) (h : ∀ i, i < 8 → m (a + i) = 0) : rdNum (readM m a 8) 0 8 true = 0 := by
  have h2 : (0 : Int) ≤ 0 ∧ (0 : Int) + (8 : Nat) ≤ ((readM m a 8).length : Nat) := by rw [readM_length]; omega
  rw [rdNum, if_pos h2]
  unfold readNum
  have : numOf (byteAt (readM m a 8) (0 : Int).toNat 8 true) 8 = numOf (fun _ => 0) 8 := by
    apply numOf_congr
    intro j hj
    rw [byteAt_low]
    have e2 : (0 : Int).toNat = 0 := rfl
    rw [e2, readM_get _ _ _ _ (by omega), h _ (by omega)]; rfl
  rw [this, numOf_zero]

set_option maxRecDepth 100000 in
set_option maxHeartbeats 1000000 in
theorem mword_any (p : Nat) (ram : Sp) (okr : ram.ok) (m : Mm) (F : Nat → Prop) (N : Nat) (ad : Nat) (had : ad < 18446744073709551616) (w : World) (hM : PMem w p ram m F N) :
    Calls Tryz.prog 30 #[.pointer (some ⟨p, 0, none⟩), .int .u64 (ad : Int)] w fun e w' => e = .returned (.tuple #[.int .u64 (wordV ram m ad : Int), .int .i64 (wordErr ram ad)]) ∧ Below w.heap.size w w' := by
  obtain ⟨r, hr⟩ : ∃ r, r = ad % 8 := ⟨_, rfl⟩
  have hr1 : (ad : Int) % 8 = (r : Int) := by omega
  by_cases h0 : r = 0
  · subst h0
    obtain ⟨bm, D, pg, hP⟩ := hM
    have hask := mask_any p ram okr bm ad 8 had (by omega) w hP.blk
    obtain ⟨E, hE⟩ : ∃ E, E = askErr ram ad 8 := ⟨_, rfl⟩
    rw [← hE] at hask
    obtain ⟨q, hq⟩ : ∃ q, q = ad / 4096 := ⟨_, rfl⟩
    obtain ⟨o, ho⟩ : ∃ o, o = ad % 4096 := ⟨_, rfl⟩
    have hq64 : q < 18446744073709551616 := by omega
    have ho8 : o + 8 ≤ 4096 := by omega
    have hxq : ad = 4096 * q + o := by omega
    have hx2 : (ad : Int) % 4096 = (o : Int) := by omega
    have hx3 : (ad : Int) / 4096 = (q : Int) := by omega
    have HR := Lib.hid hr
    have HE := Lib.hid hE
    have HXQ := Lib.hid hxq
    clear hr hE hq ho hxq
    go_enter Tryz.func30, Tryz.ntmps30
    go_wp2_with fail
    refine hask.mono ?_
    rintro e W1 ⟨rfl, B1⟩
    have hP1 := hP.below B1 (Nat.le_refl _)
    clear hask hP
    by_cases hE0 : E = 0
    · have he : Hid (wordErr ram ad = 0) := Lib.hid (by rw [wordErr, if_pos ⟨HR.out.symm, by rw [← HE.out]; exact hE0⟩])
      have hv : Hid (wordV ram m ad = rdNum (readM m ad 8) 0 8 true) := Lib.hid (by rw [wordV, if_pos ⟨HR.out.symm, by rw [← HE.out]; exact hE0⟩])
      have hlk := hP1.look q hq64
      have c2 : W1.cell? ⟨p, 2, none⟩ = some (.map (some bm)) := (hP1.blk.cell 2).trans rfl
      clear HE
      subst hE0
      cases hpg : pg q with
      | none =>
        rw [hpg] at hlk
        have hzz : Hid (∀ i, i < 8 → m (ad + i) = 0) := Lib.hid (fun i hi => by rw [HXQ.out, Nat.add_assoc]; exact hP1.zero q hpg (o + i) (by omega))
        have hnn := nilEq
        clear hpg
        go_wp2
        go_ret2
        rw [he.out, hv.out, word_zero m ad hzz.out]
        exact ⟨rfl, B1⟩
      | some g =>
        rw [hpg] at hlk
        have hrow := (hP1.rows q g hpg).1
        have hpe := pgEq g
        have hrd := hrow.rd (size := 1) (n := 4096) (by rw [List.size_toArray, bcells_length, pageOf_length])
        rw [List.toList_toArray] at hrd
        unfold pgV at hlk hpe
        have hx5 : IntKind.i64.wrap (o : Int) = (o : Int) := by rw [IntWalk.i64_in _ (by omega)]
        clear hpg
        go_wp2_with fail
        refine (le64_any (some ⟨g, 0, none⟩) 4096 4096 (o : Int) (pageOf m q) W1 hrd (by omega)).mono ?_
        rintro e w' ⟨rfl, rfl⟩
        have hnum : Hid (rdNum (pageOf m q) (o : Int) 8 true = wordV ram m ad) := Lib.hid (by rw [hv.out]; exact word_page m ad q o HXQ.out ho8)
        rw [hnum.out]
        clear hv hlk hrd
        go_wp2
        go_ret2
        rw [he.out]
        exact ⟨rfl, B1⟩
    · have he : Hid (wordErr ram ad = 90) := Lib.hid (by rw [wordErr, if_neg (fun h => hE0 (by rw [HE.out]; exact h.2))])
      have hv : Hid (wordV ram m ad = 0) := Lib.hid (by rw [wordV, if_neg (fun h => hE0 (by rw [HE.out]; exact h.2))])
      have hne : (E != 0) = true := by simpa using hE0
      clear hE0 HE
      go_wp2
      go_ret2
      rw [he.out, hv.out]
      exact ⟨rfl, B1⟩
  · have he : Hid (wordErr ram ad = 90) := Lib.hid (by rw [wordErr, if_neg (by omega)])
    have hv : Hid (wordV ram m ad = 0) := Lib.hid (by rw [wordV, if_neg (by omega)])
    have hne : ((r : Int) != 0) = true := by simp; omega
    clear hr h0
    go_enter Tryz.func30, Tryz.ntmps30
    go_wp2
    go_ret2
    rw [he.out, hv.out]
    exact ⟨rfl, Below.refl _ _⟩
end Go.Proofs.YtpellkblaeeopaaGreatDoor
/-
  Walk: chapter 9's example.
-/
namespace Go.Proofs.YtpellkblaeeopaaGreatDoor
open Go.RowKit

theorem ptrNe (p : Nat) (w : World) : (binOp .eql 26 (.pointer (some ⟨p, 0, none⟩)) (.pointer none)).run Tryz.prog w = .ok (.bool false) w := by kernel_rfl
end Go.Proofs.YtpellkblaeeopaaGreatDoor
/-
  Plain numbers: what is put is read.
-/
namespace Go.Proofs.YtpellkblaeeopaaGreatDoor

theorem numOf_digits (x n : Nat) : ∀ j, j ≤ n → numOf (fun k => x / 256 ^ (n - 1 - k) % 256) j = x / 256 ^ (n - j) % 256 ^ j
  | 0, _ => by simp [numOf, Nat.mod_one]
  | j + 1, h => by
    have ih := numOf_digits x n j (by omega)
    simp only [numOf]
    rw [ih]
    have e1 : x / 256 ^ (n - j) = x / 256 ^ (n - (j + 1)) / 256 := by
      rw [Nat.div_div_eq_div_mul, ← Nat.pow_succ]
      congr 2; omega
    have e2 : n - 1 - j = n - (j + 1) := by omega
    rw [e1, e2, Nat.pow_succ, Nat.mul_comm (256 ^ j) 256, Nat.mod_mul]
    omega
/-- what is put is read -/
theorem read_put (l : List UInt8) (x n : Nat) (low : Bool) (hx : x < 256 ^ n) : rdNum (l ++ putNum x n low) l.length n low = x := by
  have hin : (0 : Int) ≤ (l.length : Int) ∧ (l.length : Int) + n ≤ (l ++ putNum x n low).length := by
    rw [List.length_append, putNum_length]; omega
  rw [rdNum, if_pos hin]
  have : readNum (l ++ putNum x n low) l.length n low = numOf (fun k => x / 256 ^ (n - 1 - k) % 256) n := by
    unfold readNum
    apply numOf_congr
    intro j hj
    have hput : ∀ i, i < n → (l ++ putNum x n low)[l.length + i]?.getD 0 = putByte x n low i := by
      intro i hi
      rw [List.getElem?_append_right (by omega), Nat.add_sub_cancel_left]
      simp [putNum, hi]
    unfold byteAt
    cases low
    · simp only [Bool.false_eq_true, if_false]
      rw [hput j hj]
      simp [putByte, UInt8.toNat_ofNat']
    · simp only [if_true]
      rw [show l.length + n - 1 - j = l.length + (n - 1 - j) by omega, hput _ (by omega)]
      simp [putByte, UInt8.toNat_ofNat']
  rw [Int.toNat_natCast, this, numOf_digits x n n (Nat.le_refl _)]
  simp [Nat.mod_eq_of_lt hx]
theorem rdOk_put (l : List UInt8) (x n : Nat) (low : Bool) : rdOk (l ++ putNum x n low) l.length n = true := by
  rw [rdOk, decide_eq_true]
  rw [List.length_append, putNum_length]; omega
end Go.Proofs.YtpellkblaeeopaaGreatDoor
/-
  Walk: the law MachWords.
-/
namespace Go.Proofs.YtpellkblaeeopaaGreatDoor
open Go.RowKit

theorem readM_write (m : Mm) (a : Nat) (l : List UInt8) : readM (writeM m a l) a l.length = l := by
  apply List.ext_getElem?
  intro i
  by_cases h : i < l.length
  · rw [readM_get _ _ _ _ h, writeM_in _ _ _ _ h, List.getElem?_eq_getElem h]; rfl
  · rw [List.getElem?_eq_none (by rw [readM_length]; omega), List.getElem?_eq_none (by omega)]
theorem rd_putNum (x : Nat) (hx : x < 18446744073709551616) : rdNum (putNum x 8 true) 0 8 true = x ∧ rdOk (putNum x 8 true) 0 8 = true := by
  have h1 := read_put [] x 8 true (by omega)
  have h2 := rdOk_put [] x 8 true
  exact ⟨h1, h2⟩
end Go.Proofs.YtpellkblaeeopaaGreatDoor
