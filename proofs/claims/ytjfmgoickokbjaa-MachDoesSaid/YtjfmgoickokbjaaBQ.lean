/-
  Parts: MaC MaD MaE MaF.
-/
import Derived.Test.YtjfmgoickokbjaaMaB
import Derived.Deep.MidRow
import Derived.Maps.RangeWalk
/-
  Walks: span.Pages (through slices.ContainsFunc, slices.IndexFunc).
-/
namespace Go.Proofs.Ytjfmgoickokbjaa
open Go.RowKit

section
variable {P : Program} {ops : Array Oper} {rest : List Oper} {o : Oper} {a : Act} {Q : Exit → Act → World → Prop}
/-- a call of a function value -/
theorem wpList_callV {w : World} {f : FuncId} {fn : Func} {c : Code} {x : Tmp} {args : Array Operand} {tys : Array TypeId} {caps vals : Array Value} {R : Ending → World → Prop} (hgd : o.guard = none)
    (ho : o.op = .call { callee := .value (.tmp x), args := args, argTypes := tys }) (hx : a.tmps[x]?.getD undef = .func (.func f) #[] caps) (hf : P.funcs[f]? = some fn) (hb : fn.body = some c) (hname : (fn.name == "runtime.NumGoroutine") = false)
    (hv : args.map a.eval ++ caps = vals) (h : Calls P f vals w R) (hR : ∀ e w', R e w' → ∃ v, e = .returned v ∧ wpList P ops Q rest (a.put o.dst v) w') : wpList P ops Q (o :: rest) a w := by
  refine wpList_plain hgd fun K hK => ?_
  have h1 : fn.name ≠ "runtime.NumGoroutine" := by simpa using hname
  have hrun : (execOp a.eval o).run P w = .ok (.enter f vals) w := by
    simp [execOp, ho, resolve, Act.eval, hx, Deferred.ofValue, invoke, callFunc, hf, h1, hb]
    exact hv
  unfold Oper.wp
  rw [hrun]
  refine Calls.mono h fun e w' hr => ?_
  obtain ⟨v, rfl, h2⟩ := hR e w' hr
  exact hK _ _ h2
end
section
variable {P : Program} {ops : Array Oper} {rest : List Oper} {a : Act} {w : World} {Q : Exit → Act → World → Prop} {dst : Option Tmp} {ty : TypeId} {pos : String} {aft : Array Edge} {gd : Option (Nat × Bool)}
theorem at_callV (x : Tmp) {args : Array Operand} {tys : Array TypeId} (h : wpList P ops Q (⟨dst, .call ⟨.value (.tmp x), args, tys⟩, ty, pos, aft, gd⟩ :: rest) a w) : wpList P ops Q (⟨dst, .call ⟨.value (.tmp x), args, tys⟩, ty, pos, aft, gd⟩ :: rest) a w := h
end

theorem or_pages (a b : Nat) : (a ||| b) % 4096 = 0 ↔ a % 4096 = 0 ∧ b % 4096 = 0 := by
  have := Nat.or_mod_two_pow (a := a) (b := b) (n := 12)
  rw [show (2 : Nat) ^ 12 = 4096 from rfl] at this
  rw [this, Nat.or_eq_zero_iff]

set_option maxRecDepth 100000 in
theorem notPages_any (s : Sp) (ok : s.ok) (w : World) : Calls Try.prog 56 #[.agg s.cells] w (BoolRet w (!s.pages)) := by
  have hb := Blk.new w 24 s.cells
  have B : Below w.heap.size w (w.alloc (.cells s.cells 24)) := (Below.refl _ _).alloc (Nat.le_refl _) _
  have k1 := ok.base
  have k2 := ok.size
  go_enter Try.func56, Try.ntmps56
  go_wp2_with ((with_reducible refine at_load 24 ?_); refine wpList_loadAll _ rfl 24 _ rfl w.heap.size 24 s.cells hb _ rfl Try.underlying24 rfl infSpan ?_)
  generalize w.alloc (.cells s.cells 24) = W at *
  refine (good_any s ok W).mono ?_
  rintro e W2 ⟨rfl, hB⟩
  have hb2 := hb.below hB hb.lt
  obtain ⟨c0, c1⟩ := sp_cells hb2
  have B2 := B.trans (hB.mono B.size)
  clear hb B hB
  cases hg : s.good with
  | false =>
    have hx : Hid (s.pages = false) := Lib.hid (by simp [Sp.pages, hg])
    clear hg
    go_wp2
    go_ret
    refine ⟨ret_bool ?_, B2⟩
    rw [hx.out]; rfl
  | true =>
    have hx : Hid (s.pages = decide (s.base % 4096 = 0 ∧ s.size % 4096 = 0)) := Lib.hid (by simp [Sp.pages, hg])
    clear hg
    go_wp2
    all_goals
      go_ret
      refine ⟨ret_bool ?_, B2⟩
      rw [hx.out]
      rw [u64_or_nat _ _ k1 k2, Bool.eq_iff_iff]
      rw [show ((s.base ||| s.size : Nat) : Int).tmod 4096 = (((s.base ||| s.size) % 4096 : Nat) : Int) from rfl]
      simp only [bne_iff_ne, ne_eq, Bool.not_eq_true', decide_eq_false_iff_not, ← or_pages]
      omega
def scells (l : List Sp) : List Value := l.flatMap (·.cells.toList)
theorem scells_length (l : List Sp) : (scells l).length = l.length * 2 := by
  induction l with
  | nil => rfl
  | cons s l ih => simp only [scells, List.flatMap_cons, List.length_append] at *; rw [ih]; simp [Sp.cells]; omega
theorem scells_get : ∀ (l : List Sp) (k : Nat) (s : Sp), l[k]? = some s → ((scells l).drop (k * 2)).take 2 = s.cells.toList
  | [], k, s, h => by simp at h
  | x :: l, 0, s, h => by
    simp at h; subst h
    simp [scells, Sp.cells]
  | x :: l, k + 1, s, h => by
    have := scells_get l k s (by simpa using h)
    simp only [scells, List.flatMap_cons]
    rw [show (k + 1) * 2 = 2 + k * 2 by omega, ← List.drop_drop, List.drop_left' (by simp [Sp.cells])]
    exact this
/-- the k-th span of a row -/
theorem rd_span {w : World} {B n : Nat} {b off : Nat} {l : List Sp} (h : Rd w B 2 (some ⟨b, off, none⟩) n (scells l)) (k : Nat) (s : Sp) (hk : l[k]? = some s) : w.rangeAt b (off + k * 2) s.cells.toList := by
  obtain ⟨hlt, _⟩ := List.getElem?_eq_some_iff.1 hk
  have hn : n = l.length := by have := h.len; rw [scells_length] at this; omega
  obtain ⟨b', off', e, _, hr⟩ := h.range (by omega)
  cases e
  intro j v hv
  have hg := scells_get l k s hk
  have hv2 : (scells l)[k * 2 + j]? = some v := by
    have h1 : (((scells l).drop (k * 2)).take 2)[j]? = some v := by rw [hg]; exact hv
    rw [List.getElem?_take] at h1
    split at h1
    · rwa [List.getElem?_drop] at h1
    · cases h1
  have := hr (k * 2 + j) v hv2
  rwa [← Nat.add_assoc] at this

set_option maxRecDepth 100000 in
set_option maxHeartbeats 1000000 in
theorem idxPages_any (b off n c : Nat) (l : List Sp) (hok : ∀ s ∈ l, s.ok) (w : World) (hR : Rd w w.heap.size 2 (some ⟨b, off, none⟩) n (scells l)) (hn : n ≤ 1000000) :
    Calls Try.prog 66 #[.slice (some ⟨b, off, none⟩) n c, .func (.func 56) #[] #[]] w fun e w' =>
      ∃ i : Int, e = .returned (.int .i64 i) ∧ decide (0 ≤ i) = !(l.all Sp.pages) ∧ Below w.heap.size w w' := by
  have hnl : n = l.length := by have := hR.len; rw [scells_length] at this; omega
  have HL := Lib.hid hnl
  have HOK := Lib.hid hok
  clear hnl hok
  go_enter Try.func66, Try.ntmps66
  go_wp2
  go_loopw [8] (fun i wr => ∃ k : Nat, k ≤ n ∧ i = .int .i64 k ∧ Hid (∀ s ∈ l.take k, s.pages = true) ∧ Below w.heap.size w wr) (fun i _ => n - (intOf i).toNat)
  case atStart => exact ⟨0, Nat.zero_le _, rfl, Lib.hid (by simp), Below.refl _ _⟩
  case round =>
    obtain ⟨k, hk, rfl, hall, hB⟩ := hrel
    by_cases hlt : k < n
    · obtain ⟨s, hs⟩ : ∃ s, l[k]? = some s := ⟨_, List.getElem?_eq_getElem (by rw [← HL.out]; exact hlt)⟩
      have hok : s.ok := HOK.out s (List.mem_of_getElem? hs)
      have hrng := rd_span (hR.below hB) k s hs
      have HS := Lib.hid hs
      have hcall := notPages_any s hok wr
      obtain ⟨p, hp⟩ : ∃ p, p = s.pages := ⟨_, rfl⟩
      rw [← hp] at hcall
      have HP := Lib.hid hp
      clear hs hp
      cases p with
      | true =>
        go_wp2_with (first
          | ((with_reducible refine at_load 24 ?_); refine wpList_load_mid rfl 24 _ rfl b (off + k * 2) rfl s.cells.toList _ hrng Try.underlying24 rfl infSpan ?_)
          | ((with_reducible refine at_callV 11 ?_); refine wpList_callV (vals := #[.agg s.cells]) rfl rfl rfl Try.func56 rfl (by kernel_rfl) (by simp [Act.eval, Act.put]) hcall ?_; rintro e w5 ⟨rfl, hB5⟩; refine ⟨_, rfl, ?_⟩))
        go_roundw
        case rel => exact ⟨k + 1, by omega, by go_num, Lib.hid (by
          intro x hx
          rw [List.take_add_one, HS.out] at hx
          simp only [Option.toList_some, List.mem_append, List.mem_singleton] at hx
          rcases hx with hx | rfl
          · exact hall.out x hx
          · exact HP.out.symm), hB.trans (hB5.mono hB.size)⟩
        case measure => simp [intOf]; omega
      | false =>
        go_wp2_with (first
          | ((with_reducible refine at_load 24 ?_); refine wpList_load_mid rfl 24 _ rfl b (off + k * 2) rfl s.cells.toList _ hrng Try.underlying24 rfl infSpan ?_)
          | ((with_reducible refine at_callV 11 ?_); refine wpList_callV (vals := #[.agg s.cells]) rfl rfl rfl Try.func56 rfl (by kernel_rfl) (by simp [Act.eval, Act.put]) hcall ?_; rintro e w5 ⟨rfl, hB5⟩; refine ⟨_, rfl, ?_⟩))
        go_ret
        refine ⟨_, rfl, ?_, hB.trans (hB5.mono hB.size)⟩
        have hf : l.all Sp.pages = false := by
          rw [List.all_eq_false]
          exact ⟨s, List.mem_of_getElem? HS.out, by rw [← HP.out]; simp⟩
        rw [hf]; simp
    · obtain rfl : k = n := by omega
      go_wp2
      go_ret
      refine ⟨_, rfl, ?_, hB⟩
      have hf : l.all Sp.pages = true := by
        rw [List.all_eq_true]
        intro x hx
        exact hall.out x (by rw [List.take_of_length_le (by rw [HL.out]; exact Nat.le_refl _)]; exact hx)
      rw [hf]; rfl

set_option maxRecDepth 100000 in
theorem mpages_any (b off n c : Nat) (l : List Sp) (hok : ∀ s ∈ l, s.ok) (w : World) (hR : Rd w w.heap.size 2 (some ⟨b, off, none⟩) n (scells l)) (hn : n ≤ 1000000) :
    Calls Try.prog 33 #[.slice (some ⟨b, off, none⟩) n c] w (BoolRet w (l.all Sp.pages)) := by
  have hcf : Calls Try.prog 55 #[.slice (some ⟨b, off, none⟩) n c, .func (.func 56) #[] #[]] w (BoolRet w (!(l.all Sp.pages))) := by
    go_enter Try.func55, Try.ntmps55
    go_wp2_with fail
    refine (idxPages_any b off n c l hok w hR hn).mono ?_
    rintro e w' ⟨i, rfl, hi, hB⟩
    go_wp2
    go_ret
    exact ⟨ret_bool (by first | rfl | exact hi), hB⟩
  obtain ⟨p, hp⟩ : ∃ p, p = l.all Sp.pages := ⟨_, rfl⟩
  rw [← hp] at hcf ⊢
  clear hp hok hR
  go_enter Try.func33, Try.ntmps33
  go_wp2_with fail
  refine hcf.mono ?_
  rintro e w' ⟨rfl, hB⟩
  go_wp2
  go_ret
  exact ⟨ret_bool (by simp), hB⟩
end Go.Proofs.Ytjfmgoickokbjaa
/-
  Walks: Fit of both: which boards may be.
-/
namespace Go.Proofs.Ytjfmgoickokbjaa
open Go.RowKit

structure Bd where
  ram : Sp
  ldr : Sp
  irqs : Int
  streams : Int
  cpus : Int
structure Bd.ok (b : Bd) : Prop where
  ram : b.ram.ok
  ldr : b.ldr.ok
  irqs : (Lit.int .i64 b.irqs).wf = true
  streams : (Lit.int .i64 b.streams).wf = true
  cpus : (Lit.int .i64 b.cpus).wf = true
def Bd.cells (b : Bd) : Array Value := #[.int .u64 (b.ram.base : Int), .int .u64 (b.ram.size : Int), .int .u64 (b.ldr.base : Int), .int .u64 (b.ldr.size : Int), .int .i64 b.irqs, .int .i64 b.streams, .int .i64 b.cpus]
def Bd.spans (b : Bd) : Bool := b.ram.pages && b.ldr.pages && decide (b.ram.last < 1099511627776) && b.ldr.within b.ram
def Bd.counts (b : Bd) : Bool := decide (0 ≤ b.irqs ∧ b.irqs ≤ 1020 ∧ 0 ≤ b.streams ∧ b.streams ≤ 256 ∧ 1 ≤ b.cpus ∧ b.cpus ≤ 32)
def Bd.fits (b : Bd) : Bool := b.spans && b.counts
def Bd.err (b : Bd) : Int := if b.fits then 0 else 282
theorem bd_ram {w : World} {g : Nat} {b : Bd} (h : Blk w g 39 b.cells) : w.rangeAt g 0 b.ram.cells.toList := by
  intro j v hv
  rw [Nat.zero_add, h.cell]
  match j, hv with
  | 0, hv => exact hv
  | 1, hv => exact hv
theorem bd_ldr {w : World} {g : Nat} {b : Bd} (h : Blk w g 39 b.cells) : w.rangeAt g 2 b.ldr.cells.toList := by
  intro j v hv
  rw [h.cell]
  match j, hv with
  | 0, hv => exact hv
  | 1, hv => exact hv
theorem bd_cells {w : World} {g : Nat} {b : Bd} (h : Blk w g 39 b.cells) : w.cell? ⟨g, 4, none⟩ = some (.int .i64 b.irqs) ∧ w.cell? ⟨g, 5, none⟩ = some (.int .i64 b.streams) ∧ w.cell? ⟨g, 6, none⟩ = some (.int .i64 b.cpus) :=
  ⟨(h.cell 4).trans rfl, (h.cell 5).trans rfl, (h.cell 6).trans rfl⟩

theorem inRange_any (x a b : Int) (w : World) : Calls Try.prog 37 #[.int .i64 x, .int .i64 a, .int .i64 b] w fun e w' => e = .returned (.bool (decide (a ≤ x ∧ x ≤ b))) ∧ w' = w := by
  go_enter Try.func37, Try.ntmps37
  go_wp2
  all_goals
    go_ret
    refine ⟨ret_bool ?_, rfl⟩
    rw [Bool.eq_iff_iff]
    simp only [Bool.and_eq_true, decide_eq_true_eq, Bool.false_eq_true, false_iff]
    omega

theorem elSp : Elem Try.prog 110 24 (.agg #[.int .u64 0, .int .u64 0]) 2 16 := Elem.of (by kernel_rfl) (by kernel_rfl) rfl (by omega)
theorem run_spans1 (w : World) (s : Sp) : (Instr.buildSlice 110 1 #[(0, .agg s.cells)]).run Try.prog w = .ok (.slice (some ⟨w.heap.size, 0, none⟩) 1 1) (w.alloc (.cells (scells [s]).toArray 24)) := by
  have := run_buildSlice_all (P := Try.prog) w elSp 1 #[(0, .agg s.cells)] [.agg s.cells] rfl rfl (by omega) (by omega) (by simp [Value.cells, Sp.cells])
  simpa [flat, Value.cells, scells] using this
theorem run_spans2 (w : World) (s t : Sp) : (Instr.buildSlice 110 2 #[(0, .agg s.cells), (1, .agg t.cells)]).run Try.prog w = .ok (.slice (some ⟨w.heap.size, 0, none⟩) 2 2) (w.alloc (.cells (scells [s, t]).toArray 24)) := by
  have := run_buildSlice_all (P := Try.prog) w elSp 2 #[(0, .agg s.cells), (1, .agg t.cells)] [.agg s.cells, .agg t.cells] rfl rfl (by omega) (by omega) (by simp [Value.cells, Sp.cells])
  simpa [flat, Value.cells, scells] using this

theorem Bd.err_bad {b : Bd} (h : b.spans = false) : b.err = 282 := by rw [Bd.err, Bd.fits, h]; rfl
theorem Bd.err_of {b : Bd} (h : b.spans = true) : b.err = if b.counts then 0 else 282 := by rw [Bd.err, Bd.fits, h]; rfl
set_option maxRecDepth 100000 in
set_option maxHeartbeats 4000000 in
theorem mfit_any (b : Bd) (ok : b.ok) (w : World) : Calls Try.prog 16 #[.agg b.cells] w fun e w' => e = .returned (.int .i64 b.err) ∧ Below w.heap.size w w' := by
  have hb := Blk.new w 39 b.cells
  have B0 : Below w.heap.size w (w.alloc (.cells b.cells 39)) := (Below.refl _ _).alloc (Nat.le_refl _) _
  have hr := bd_ram hb
  have hl := bd_ldr hb
  have hlt := hb.lt
  go_enter Try.func16, Try.ntmps16
  go_wp2_with (first
    | ((with_reducible refine at_load 24 ?_); refine wpList_load_mid rfl 24 _ rfl w.heap.size 0 rfl b.ram.cells.toList _ hr Try.underlying24 rfl infSpan ?_)
    | ((with_reducible refine at_load 24 ?_); refine wpList_load_mid rfl 24 _ rfl w.heap.size 2 rfl b.ldr.cells.toList _ hl Try.underlying24 rfl infSpan ?_)
    | ((with_reducible refine at_buildSlice 110 ?_); refine wpList_runV rfl (Flow.reg_buildSlice #[(0, .agg b.ram.cells), (1, .agg b.ldr.cells)] rfl (by simp [Act.eval, Act.put]) (run_spans2 _ b.ram b.ldr)) ?_))
  clear hr hl
  have hs0 : (w.alloc (.cells b.cells 39)).heap.size = w.heap.size + 1 := by simp
  generalize w.alloc (.cells b.cells 39) = W0 at *
  have hbs := Blk.new W0 24 (scells [b.ram, b.ldr]).toArray
  have B0' := B0.alloc B0.size (.cells (scells [b.ram, b.ldr]).toArray 24)
  have hb0 := hb.alloc (.cells (scells [b.ram, b.ldr]).toArray 24)
  have hpg := mpages_any W0.heap.size 0 2 2 [b.ram, b.ldr] (by intro x hx; simp only [List.mem_cons, List.not_mem_nil, or_false] at hx; rcases hx with rfl | rfl; exact ok.ram; exact ok.ldr) _ (hbs.rd rfl) (by omega)
  rw [hs0] at hpg
  clear hbs hb hs0
  generalize W0.alloc (.cells (scells [b.ram, b.ldr]).toArray 24) = W1 at *
  refine hpg.mono ?_
  rintro e W2 ⟨rfl, hB2⟩
  have hb2 := hb0.below hB2 hb0.lt
  have B2 := B0'.trans (hB2.mono B0'.size)
  clear hpg hb0 B0' B0 hB2
  cases hp : [b.ram, b.ldr].all Sp.pages with
  | false =>
    have he : Hid (b.err = 282) := Lib.hid (by
      simp only [List.all_cons, List.all_nil, Bool.and_true] at hp
      exact Bd.err_bad (by rw [Bd.spans, hp]; rfl))
    clear hp
    go_wp2
    go_ret
    exact ⟨ret_int he.out.symm, B2⟩
  | true =>
    have hpp : b.ram.pages = true ∧ b.ldr.pages = true := by
      simp only [List.all_cons, List.all_nil, Bool.and_true] at hp
      simpa using hp
    have HP := Lib.hid hpp
    clear hp hpp
    have hr := bd_ram hb2
    go_wp2_with ((with_reducible refine at_load 24 ?_); refine wpList_load_mid rfl 24 _ rfl w.heap.size 0 rfl b.ram.cells.toList _ hr Try.underlying24 rfl infSpan ?_)
    refine (last_any b.ram ok.ram W2).mono ?_
    rintro e W3 ⟨rfl, hB3⟩
    obtain ⟨L, hL⟩ : ∃ L, L = b.ram.last := ⟨_, rfl⟩
    rw [← hL]
    have HL := Lib.hid hL
    have hb3 := hb2.below hB3 hb2.lt
    have B3 := B2.trans (hB3.mono B2.size)
    have hr := bd_ram hb3
    have hl := bd_ldr hb3
    clear hL hb2 B2 hB3
    by_cases hge : 1099511627776 ≤ L
    · have hd : decide ((1099511627776 : Int) ≤ (L : Int)) = true := decide_eq_true (by omega)
      have he : Hid (b.err = 282) := Lib.hid (Bd.err_bad (by
        have : ¬ b.ram.last < 1099511627776 := by have := HL.out; omega
        rw [Bd.spans, decide_eq_false this]; simp))
      clear hge hr hl
      go_wp2
      go_ret
      exact ⟨ret_int he.out.symm, B3⟩
    · have hd : decide ((1099511627776 : Int) ≤ (L : Int)) = false := decide_eq_false (by omega)
      have HG : Hid (b.ram.last < 1099511627776) := Lib.hid (by have := HL.out; omega)
      clear hge
      go_wp2_with (first
        | ((with_reducible refine at_load 24 ?_); refine wpList_load_mid rfl 24 _ rfl w.heap.size 0 rfl b.ram.cells.toList _ hr Try.underlying24 rfl infSpan ?_)
        | ((with_reducible refine at_load 24 ?_); refine wpList_load_mid rfl 24 _ rfl w.heap.size 2 rfl b.ldr.cells.toList _ hl Try.underlying24 rfl infSpan ?_))
      refine (within_any b.ldr b.ram ok.ldr ok.ram W3).mono ?_
      rintro e W4 ⟨rfl, hB4⟩
      have hb4 := hb3.below hB4 hb3.lt
      have B4 := B3.trans (hB4.mono B3.size)
      clear hr hl hb3 B3 hB4
      obtain ⟨c4, c5, c6⟩ := bd_cells hb4
      cases hwi : b.ldr.within b.ram with
      | false =>
        have he : Hid (b.err = 282) := Lib.hid (Bd.err_bad (by rw [Bd.spans, hwi]; simp))
        clear hwi
        go_wp2
        go_ret
        exact ⟨ret_int he.out.symm, B4⟩
      | true =>
        have hs : Hid (b.spans = true) := Lib.hid (by rw [Bd.spans, HP.out.1, HP.out.2, decide_eq_true HG.out, hwi]; rfl)
        clear hwi
        obtain ⟨q1, hq1⟩ : ∃ q, q = decide (0 ≤ b.irqs ∧ b.irqs ≤ 1020) := ⟨_, rfl⟩
        obtain ⟨q2, hq2⟩ : ∃ q, q = decide (0 ≤ b.streams ∧ b.streams ≤ 256) := ⟨_, rfl⟩
        obtain ⟨q3, hq3⟩ : ∃ q, q = decide (1 ≤ b.cpus ∧ b.cpus ≤ 32) := ⟨_, rfl⟩
        have hc1 : Calls Try.prog 37 #[.int .i64 b.irqs, .int .i64 0, .int .i64 1020] W4 fun e w' => e = .returned (.bool q1) ∧ W4 = w' := (inRange_any b.irqs 0 1020 W4).mono fun e w' ⟨h1, h2⟩ => ⟨by rw [h1, hq1], h2.symm⟩
        have hc2 : Calls Try.prog 37 #[.int .i64 b.streams, .int .i64 0, .int .i64 256] W4 fun e w' => e = .returned (.bool q2) ∧ W4 = w' := (inRange_any b.streams 0 256 W4).mono fun e w' ⟨h1, h2⟩ => ⟨by rw [h1, hq2], h2.symm⟩
        have hc3 : Calls Try.prog 37 #[.int .i64 b.cpus, .int .i64 1, .int .i64 32] W4 fun e w' => e = .returned (.bool q3) ∧ W4 = w' := (inRange_any b.cpus 1 32 W4).mono fun e w' ⟨h1, h2⟩ => ⟨by rw [h1, hq3], h2.symm⟩
        have he : Hid (b.err = if q1 && q2 && q3 then 0 else 282) := Lib.hid (by
          rw [Bd.err_of hs.out, hq1, hq2, hq3, Bd.counts]
          have : decide (0 ≤ b.irqs ∧ b.irqs ≤ 1020 ∧ 0 ≤ b.streams ∧ b.streams ≤ 256 ∧ 1 ≤ b.cpus ∧ b.cpus ≤ 32) = (decide (0 ≤ b.irqs ∧ b.irqs ≤ 1020) && decide (0 ≤ b.streams ∧ b.streams ≤ 256) && decide (1 ≤ b.cpus ∧ b.cpus ≤ 32)) := by
            rw [Bool.eq_iff_iff]; simp only [Bool.and_eq_true, decide_eq_true_eq]; omega
          rw [this])
        clear hq1 hq2 hq3 hb4
        cases q1 <;> cases q2 <;> cases q3
        all_goals
          go_wp2_with (first
            | ((with_reducible refine at_callV 23 ?_); refine wpList_callV (vals := #[.int .i64 b.irqs, .int .i64 0, .int .i64 1020]) rfl rfl rfl Try.func37 rfl (by kernel_rfl) (by simp [Act.eval]) hc1 ?_; rintro e w5 ⟨rfl, rfl⟩; refine ⟨_, rfl, ?_⟩)
            | ((with_reducible refine at_callV 28 ?_); refine wpList_callV (vals := #[.int .i64 b.streams, .int .i64 0, .int .i64 256]) rfl rfl rfl Try.func37 rfl (by kernel_rfl) (by simp [Act.eval]) hc2 ?_; rintro e w5 ⟨rfl, rfl⟩; refine ⟨_, rfl, ?_⟩)
            | ((with_reducible refine at_callV 33 ?_); refine wpList_callV (vals := #[.int .i64 b.cpus, .int .i64 1, .int .i64 32]) rfl rfl rfl Try.func37 rfl (by kernel_rfl) (by simp [Act.eval]) hc3 ?_; rintro e w5 ⟨rfl, rfl⟩; refine ⟨_, rfl, ?_⟩))
          go_ret
          exact ⟨ret_int he.out.symm, B4⟩
end Go.Proofs.Ytjfmgoickokbjaa
/-
  Walk: portreeveref09.Fit.
-/
namespace Go.Proofs.Ytjfmgoickokbjaa
open Go.RowKit

theorem wpList_load_midW {P : Program} {ops : Array Oper} {rest : List Oper} {op : Oper} {a : Act} {w : World} {Q : Exit → Act → World → Prop} (hw : Region.wanted op (yielded ops a.tmps) = true) (ty : TypeId) (x : Operand) (ho : op.op = .load ty x)
    (b o : Nat) (hx : a.eval x = .pointer (some ⟨b, o, none⟩)) (cs : List Value) (d : TypeDesc) (hc : w.rangeAt b o cs)
    (hu : P.underlying ty = some d) (hd : d.isRow = true) (hi : (P.info? ty).map (·.size) = some cs.length)
    (h : wpList P ops Q rest (a.put op.dst (.agg cs.toArray)) w) : wpList P ops Q (op :: rest) a w :=
  wpList_runV hw (by
    unfold execOp
    simp only [ho, hx, Instr.loadAt, Instr.sureAddr, Sem.run_bind, Sem.run_pure, Result.andThen_ok, run_loadVar_mid w b o ty cs d hc hu hd hi]) h

set_option maxRecDepth 100000 in
set_option maxHeartbeats 4000000 in
theorem rfit_any (b : Bd) (ok : b.ok) (w : World) : Calls Try.prog 17 #[.agg b.cells] w fun e w' => e = .returned (.int .i64 b.err) ∧ Below w.heap.size w w' := by
  have hb := Blk.new w 39 b.cells
  have B0 : Below w.heap.size w (w.alloc (.cells b.cells 39)) := (Below.refl _ _).alloc (Nat.le_refl _) _
  have hr := bd_ram hb
  go_enter Try.func17, Try.ntmps17
  go_wp2_with ((with_reducible refine at_load 24 ?_); refine wpList_load_midW rfl 24 _ rfl w.heap.size 0 rfl b.ram.cells.toList _ hr Try.underlying24 rfl infSpan ?_)
  clear hr
  generalize w.alloc (.cells b.cells 39) = W0 at *
  refine (rpages_any b.ram ok.ram W0).mono ?_
  rintro e W1 ⟨rfl, hB1⟩
  have hb1 := hb.below hB1 hb.lt
  have B1 := B0.trans (hB1.mono B0.size)
  clear hb B0 hB1
  cases hp : b.ram.pages with
  | false =>
    have he : Hid (b.err = 282) := Lib.hid (Bd.err_bad (by rw [Bd.spans, hp]; rfl))
    clear hp
    go_wp2
    go_ret
    exact ⟨ret_int he.out.symm, B1⟩
  | true =>
    have HP1 := Lib.hid hp
    have hl := bd_ldr hb1
    clear hp
    go_wp2_with ((with_reducible refine at_load 24 ?_); refine wpList_load_midW rfl 24 _ rfl w.heap.size 2 rfl b.ldr.cells.toList _ hl Try.underlying24 rfl infSpan ?_)
    refine (rpages_any b.ldr ok.ldr W1).mono ?_
    rintro e W2 ⟨rfl, hB2⟩
    have hb2 := hb1.below hB2 hb1.lt
    have B2 := B1.trans (hB2.mono B1.size)
    clear hl hb1 B1 hB2
    cases hp : b.ldr.pages with
    | false =>
      have he : Hid (b.err = 282) := Lib.hid (Bd.err_bad (by rw [Bd.spans, hp]; simp))
      clear hp
      go_wp2
      go_ret
      exact ⟨ret_int he.out.symm, B2⟩
    | true =>
      have HP2 := Lib.hid hp
      have hr := bd_ram hb2
      clear hp
      go_wp2_with ((with_reducible refine at_load 24 ?_); refine wpList_load_midW rfl 24 _ rfl w.heap.size 0 rfl b.ram.cells.toList _ hr Try.underlying24 rfl infSpan ?_)
      refine (rlast_any b.ram ok.ram W2).mono ?_
      rintro e W3 ⟨rfl, hB3⟩
      obtain ⟨L, hL⟩ : ∃ L, L = b.ram.last := ⟨_, rfl⟩
      rw [← hL]
      have HL := Lib.hid hL
      have hb3 := hb2.below hB3 hb2.lt
      have B3 := B2.trans (hB3.mono B2.size)
      have hr := bd_ram hb3
      have hl := bd_ldr hb3
      clear hL hb2 B2 hB3
      by_cases hge : 1099511627776 ≤ L
      · have hd : decide ((1099511627776 : Int) ≤ (L : Int)) = true := decide_eq_true (by omega)
        have he : Hid (b.err = 282) := Lib.hid (Bd.err_bad (by
          have : ¬ b.ram.last < 1099511627776 := by have := HL.out; omega
          rw [Bd.spans, decide_eq_false this]; simp))
        clear hge hr hl
        go_wp2
        go_ret
        exact ⟨ret_int he.out.symm, B3⟩
      · have hd : decide ((1099511627776 : Int) ≤ (L : Int)) = false := decide_eq_false (by omega)
        have HG : Hid (b.ram.last < 1099511627776) := Lib.hid (by have := HL.out; omega)
        clear hge
        go_wp2_with (first
          | ((with_reducible refine at_load 24 ?_); refine wpList_load_midW rfl 24 _ rfl w.heap.size 0 rfl b.ram.cells.toList _ hr Try.underlying24 rfl infSpan ?_)
          | ((with_reducible refine at_load 24 ?_); refine wpList_load_midW rfl 24 _ rfl w.heap.size 2 rfl b.ldr.cells.toList _ hl Try.underlying24 rfl infSpan ?_))
        refine (rwithin_any b.ldr b.ram ok.ldr ok.ram W3).mono ?_
        rintro e W4 ⟨rfl, hB4⟩
        have hb4 := hb3.below hB4 hb3.lt
        have B4 := B3.trans (hB4.mono B3.size)
        clear hr hl hb3 B3 hB4
        obtain ⟨c4, c5, c6⟩ := bd_cells hb4
        cases hwi : b.ldr.within b.ram with
        | false =>
          have he : Hid (b.err = 282) := Lib.hid (Bd.err_bad (by rw [Bd.spans, hwi]; simp))
          clear hwi hb4
          go_wp2
          go_ret
          exact ⟨ret_int he.out.symm, B4⟩
        | true =>
          have hs : Hid (b.spans = true) := Lib.hid (by rw [Bd.spans, HP1.out, HP2.out, decide_eq_true HG.out, hwi]; rfl)
          have he : Hid (b.err = if decide (b.irqs < 0 ∨ 1020 < b.irqs ∨ b.streams < 0 ∨ 256 < b.streams ∨ b.cpus < 1 ∨ 32 < b.cpus) then 282 else 0) := Lib.hid (by
            rw [Bd.err_of hs.out, Bd.counts]
            by_cases hc : b.irqs < 0 ∨ 1020 < b.irqs ∨ b.streams < 0 ∨ 256 < b.streams ∨ b.cpus < 1 ∨ 32 < b.cpus
            · rw [decide_eq_true hc, decide_eq_false (by omega)]; rfl
            · rw [decide_eq_false hc, decide_eq_true (by omega)]; rfl)
          clear hwi hb4 hd
          go_wp2
          all_goals
            go_ret
            refine ⟨ret_int ?_, B4⟩
            rw [he.out]
            first
              | (rw [decide_eq_true (by omega)]; rfl)
              | (rw [decide_eq_false (by omega)]; rfl)
end Go.Proofs.Ytjfmgoickokbjaa
/-
  Plain: memory as bytes at addresses. The program's Mem in memory: a map of pages.
-/
namespace Go.Proofs.Ytjfmgoickokbjaa
open Go.RowKit
open Go.Maps (Keyed)

abbrev Mm := Nat → UInt8
def pageOf (m : Mm) (k : Nat) : List UInt8 := (List.range 4096).map fun i => m (4096 * k + i)
theorem pageOf_length (m : Mm) (k : Nat) : (pageOf m k).length = 4096 := by simp [pageOf]
theorem pageOf_get (m : Mm) (k i : Nat) (h : i < 4096) : (pageOf m k)[i]? = some (m (4096 * k + i)) := by simp [pageOf, h]
def readM (m : Mm) (a n : Nat) : List UInt8 := (List.range n).map fun i => m (a + i)
theorem readM_length (m : Mm) (a n : Nat) : (readM m a n).length = n := by simp [readM]
theorem readM_get (m : Mm) (a n i : Nat) (h : i < n) : (readM m a n)[i]? = some (m (a + i)) := by simp [readM, h]
def writeM (m : Mm) (a : Nat) (l : List UInt8) : Mm := fun x => if a ≤ x ∧ x < a + l.length then l[x - a]?.getD 0 else m x
theorem writeM_nil (m : Mm) (a : Nat) : writeM m a [] = m := by
  funext x; unfold writeM; rw [if_neg (by simp only [List.length_nil]; omega)]
theorem writeM_in (m : Mm) (a : Nat) (l : List UInt8) (i : Nat) (h : i < l.length) : writeM m a l (a + i) = l[i]?.getD 0 := by
  unfold writeM; rw [if_pos ⟨by omega, by omega⟩, Nat.add_sub_cancel_left]
theorem writeM_out (m : Mm) (a : Nat) (l : List UInt8) (x : Nat) (h : x < a ∨ a + l.length ≤ x) : writeM m a l x = m x := by
  unfold writeM; rw [if_neg (by omega)]
theorem writeM_append (m : Mm) (a : Nat) (l l2 : List UInt8) : writeM (writeM m a l) (a + l.length) l2 = writeM m a (l ++ l2) := by
  funext x
  simp only [writeM, List.length_append]
  by_cases h1 : a ≤ x
  · by_cases h2 : x < a + l.length
    · rw [if_neg (by omega), if_pos ⟨h1, h2⟩, if_pos ⟨h1, by omega⟩, List.getElem?_append_left (by omega)]
    · by_cases h3 : x < a + (l.length + l2.length)
      · rw [if_pos ⟨by omega, by omega⟩, if_pos ⟨h1, h3⟩, List.getElem?_append_right (by omega)]
        congr 2; omega
      · rw [if_neg (by omega), if_neg (by omega), if_neg (by omega)]
  · rw [if_neg (by omega), if_neg (by omega), if_neg (by omega)]
/-- one page of the memory behind a write that stays within it -/
theorem pageOf_write (m : Mm) (k o : Nat) (l : List UInt8) (h : o + l.length ≤ 4096) : pageOf (writeM m (4096 * k + o) l) k = (pageOf m k).take o ++ l ++ (pageOf m k).drop (o + l.length) := by
  apply List.ext_getElem?
  intro i
  by_cases hi : i < 4096
  · rw [pageOf_get _ _ _ hi, List.append_assoc]
    by_cases h1 : i < o
    · rw [List.getElem?_append_left (by rw [List.length_take, pageOf_length]; omega), List.getElem?_take, if_pos h1, pageOf_get _ _ _ hi, writeM_out _ _ _ _ (by omega)]
    · rw [List.getElem?_append_right (by rw [List.length_take, pageOf_length]; omega)]
      have e1 : (List.take o (pageOf m k)).length = o := by rw [List.length_take, pageOf_length]; omega
      rw [e1]
      by_cases h2 : i < o + l.length
      · rw [List.getElem?_append_left (by omega)]
        have := writeM_in m (4096 * k + o) l (i - o) (by omega)
        rw [show 4096 * k + o + (i - o) = 4096 * k + i by omega] at this
        rw [this, List.getElem?_eq_getElem (by omega)]; rfl
      · rw [List.getElem?_append_right (by omega), List.getElem?_drop, show o + l.length + (i - o - l.length) = i by omega, pageOf_get _ _ _ hi, writeM_out _ _ _ _ (by omega)]
  · rw [List.getElem?_eq_none (by rw [pageOf_length]; omega), List.getElem?_eq_none (by simp [pageOf_length]; omega)]
theorem pageOf_other (m : Mm) (k k2 o : Nat) (l : List UInt8) (h : o + l.length ≤ 4096) (hk : k2 ≠ k) : pageOf (writeM m (4096 * k + o) l) k2 = pageOf m k2 := by
  apply List.ext_getElem?
  intro i
  by_cases hi : i < 4096
  · rw [pageOf_get _ _ _ hi, pageOf_get _ _ _ hi, writeM_out]
    rcases Nat.lt_or_gt_of_ne hk with h1 | h1 <;> omega
  · rw [List.getElem?_eq_none (by rw [pageOf_length]; omega), List.getElem?_eq_none (by rw [pageOf_length]; omega)]
theorem pageOf_zero (m : Mm) (k : Nat) (h : ∀ i, i < 4096 → m (4096 * k + i) = 0) : pageOf m k = List.replicate 4096 0 := by
  apply List.ext_getElem?
  intro i
  by_cases hi : i < 4096
  · rw [pageOf_get _ _ _ hi, h i hi, List.getElem?_replicate, if_pos hi]
  · rw [List.getElem?_eq_none (by rw [pageOf_length]; omega), List.getElem?_eq_none (by rw [List.length_replicate]; omega)]

/-! the map's elements: a page's block, told as a number -/
def pgV (g : Nat) : Value := .slice (some ⟨g, 0, none⟩) 4096 4096
open Classical in
noncomputable def pgE (v : Value) : Option (DataW Unit × List MemPlace) := if h : ∃ g, v = pgV g then some (.lit (.int .i64 (h.choose : Int)), []) else if v = .slice none 0 0 then some (.nil, []) else none
theorem pgE_mk (g : Nat) : pgE (pgV g) = some (.lit (.int .i64 (g : Int)), []) := by
  have h : ∃ g', pgV g = pgV g' := ⟨g, rfl⟩
  unfold pgE
  rw [dif_pos h]
  have hs := Classical.choose_spec h
  obtain ⟨x, hx⟩ : ∃ x, x = Classical.choose h := ⟨_, rfl⟩
  rw [← hx] at hs
  have e : Classical.choose h = g := by
    rw [← hx]
    simp only [pgV, Value.slice.injEq, Option.some.injEq, Addr.mk.injEq, and_true] at hs
    exact hs.symm
  exact congrArg (fun x : Nat => some (DataW.lit (Lit.int .i64 (x : Int)), [])) e
theorem pgE_nil : pgE (.slice none 0 0) = some (.nil, []) := by
  unfold pgE
  rw [dif_neg (by rintro ⟨g, h⟩; cases h), if_pos rfl]
theorem pgE_inv {v : Value} {y : DataW Unit × List MemPlace} (h : pgE v = some y) : (∃ g : Nat, v = pgV g ∧ y = (.lit (.int .i64 (g : Int)), [])) ∨ (v = .slice none 0 0 ∧ y = (.nil, [])) := by
  unfold pgE at h
  split at h
  · rename_i hx
    left
    refine ⟨hx.choose, hx.choose_spec, (Option.some.inj h).symm⟩
  · split at h
    · rename_i hx; right; exact ⟨hx, (Option.some.inj h).symm⟩
    · cases h
theorem keyU : Keyed Try.prog 22 := Maps.int_keyed Try.underlying22
theorem keyU_mk (k : Nat) (hk : k < 18446744073709551616) : keyOf Try.prog 22 (.int .u64 (k : Int)) = some (.int .u64 (k : Int)) :=
  Maps.keyOf_int_mk Try.underlying22 (by simp [Lit.wf, IntKind.min, IntKind.max, IntKind.bits, IntKind.signed]; omega)
theorem zeroPg (w : World) : (zeroValue 26).run Try.prog w = .ok (.slice none 0 0) w := by kernel_rfl
def pgAt (pg : Nat → Option Nat) (k : Nat) (zd : DataW Unit) : DataW Unit := match pg k with | none => zd | some g => .lit (.int .i64 (g : Int))

/-- the program's Mem at block p: its memory m, its blocks F, at most N pages -/
structure PM (w : World) (p : Nat) (ram : Sp) (m : Mm) (F : Nat → Prop) (N : Nat) (bm : Nat) (D : DataW Unit) (pg : Nat → Option Nat) : Prop where
  blk : Blk w p 83 #[.int .u64 (ram.base : Int), .int .u64 (ram.size : Int), .map (some bm)]
  own : w.ownsMap Try.prog 22 pgE bm N D
  at_ : ∀ (k : Nat) (zd : DataW Unit), k < 18446744073709551616 → D.atKey (.int .u64 (k : Int)) zd = pgAt pg k zd
  rows : ∀ k g, pg k = some g → Blk w g 5 (bcells (pageOf m k)).toArray ∧ F g ∧ k < 4503599627370496
  zero : ∀ k, pg k = none → ∀ i, i < 4096 → m (4096 * k + i) = 0
  inj : ∀ k k' g, pg k = some g → pg k' = some g → k = k'
  fp : F p
  fm : F bm
  flt : ∀ b, F b → b < w.heap.size
def PMem (w : World) (p : Nat) (ram : Sp) (m : Mm) (F : Nat → Prop) (N : Nat) : Prop := ∃ bm D pg, PM w p ram m F N bm D pg

namespace PM
variable {w w' : World} {p : Nat} {ram : Sp} {m : Mm} {F : Nat → Prop} {N bm : Nat} {D : DataW Unit} {pg : Nat → Option Nat}
theorem keep (h : PM w p ram m F N bm D pg) (hs : w.heap.size ≤ w'.heap.size) (hb : ∀ b, F b → w'.heap[b]? = w.heap[b]?) : PM w' p ram m F N bm D pg := by
  obtain ⟨es, clock, h1, h2, h3, h4⟩ := h.own
  exact ⟨(hb p h.fp).trans h.blk, ⟨es, clock, (hb bm h.fm).trans h1, h2, h3, h4⟩, h.at_, fun k g hk => ⟨(hb g (h.rows k g hk).2.1).trans (h.rows k g hk).1, (h.rows k g hk).2⟩, h.zero, h.inj, h.fp, h.fm, fun b hF => Nat.lt_of_lt_of_le (h.flt b hF) hs⟩
theorem chg (h : PM w p ram m F N bm D pg) {Z : Nat → Prop} (c : Chg Z w w') (hZ : ∀ b, F b → ¬ Z b) : PM w' p ram m F N bm D pg :=
  h.keep c.size fun b hb => c.block b (h.flt b hb) (hZ b hb)
theorem below (h : PM w p ram m F N bm D pg) {n : Nat} (c : Below n w w') (hn : w.heap.size ≤ n) : PM w' p ram m F N bm D pg :=
  h.keep c.size fun b hb => c.block b (Nat.lt_of_lt_of_le (h.flt b hb) hn)
theorem more (h : PM w p ram m F N bm D pg) {N' : Nat} (hN : N ≤ N') : PM w p ram m F N' bm D pg := ⟨h.blk, h.own.mono hN, h.at_, h.rows, h.zero, h.inj, h.fp, h.fm, h.flt⟩
theorem ne_pm (h : PM w p ram m F N bm D pg) : p ≠ bm := by
  obtain ⟨es, clock, h1, _⟩ := h.own
  intro e
  have := h.blk
  rw [e] at this
  unfold Blk at this
  rw [h1] at this
  cases this
theorem ne_gm (h : PM w p ram m F N bm D pg) {k g : Nat} (hk : pg k = some g) : g ≠ bm := by
  obtain ⟨es, clock, h1, _⟩ := h.own
  intro e
  have := (h.rows k g hk).1
  rw [e] at this
  unfold Blk at this
  rw [h1] at this
  cases this
theorem ne_gp (h : PM w p ram m F N bm D pg) {k g : Nat} (hk : pg k = some g) : g ≠ p := by
  intro e
  have h1 := (h.rows k g hk).1
  rw [e] at h1
  have h2 := h.blk
  unfold Blk at h1 h2
  rw [h1] at h2
  have := Option.some.inj h2
  injection this with h3 h4
  exact absurd h4 (by decide)
/-- m.pages[k] -/
theorem look (h : PM w p ram m F N bm D pg) (k : Nat) (hk : k < 18446744073709551616) :
    (Instr.lookup 81 (.map (some bm)) (.int .u64 (k : Int)) false).run Try.prog w = .ok (match pg k with | none => .slice none 0 0 | some g => pgV g) w := by
  obtain ⟨v, ps, hrun, hv⟩ := h.own.lookup keyU Try.underlying81 (zeroPg w) pgE_nil (keyU_mk k hk)
  rw [hrun]
  rw [h.at_ k .nil hk] at hv
  unfold pgAt at hv
  rcases pgE_inv hv with ⟨g, rfl, hy⟩ | ⟨rfl, hy⟩
  · cases hp : pg k with
    | none => rw [hp] at hy; cases hy
    | some g' =>
      rw [hp] at hy
      have e := congrArg Prod.fst hy
      simp only [DataW.lit.injEq, Lit.int.injEq, true_and] at e
      have : g' = g := by omega
      subst this; rfl
  · cases hp : pg k with
    | none => rfl
    | some g' => rw [hp] at hy; cases hy
/-- m.pages[k] = a new page of zeros -/
theorem make (h : PM w p ram m F N bm D pg) (k g : Nat) (hk : k < 4503599627370496) (hN : N < maxLen) (hp : pg k = none) (hg : Blk w g 5 (bcells (List.replicate 4096 0)).toArray) (hF : ¬ F g) :
    ∃ w2 D2, (Instr.mapUpdate 81 (.map (some bm)) (.int .u64 (k : Int)) (pgV g)).run Try.prog w = .ok () w2 ∧ w.grownBy w2 (some bm) ∧
      PM w2 p ram m (fun b => F b ∨ b = g) (N + 1) bm D2 (fun x => if x = k then some g else pg x) := by
  obtain ⟨w2, hrun, hown, hgr⟩ := h.own.update keyU Try.underlying81 hN (keyU_mk k (by omega)) (pgE_mk g)
  have hb : ∀ b, b ≠ bm → b < w.heap.size → w2.heap[b]? = w.heap[b]? := fun b hb hl => hgr.block b hl (fun e => hb (Option.some.inj e))
  have hgm : g ≠ bm := fun e => hF (e ▸ h.fm)
  have hD := h.own.isMap
  refine ⟨w2, _, hrun, hgr, (hb p h.ne_pm h.blk.lt).trans h.blk, hown, fun x zd hx => ?_, fun x gx hx => ?_, fun x hx i hi => ?_, fun x y gx hx hy => ?_, .inl h.fp, .inl h.fm, fun b hbF => ?_⟩
  · by_cases e : x = k
    · subst e
      rw [Maps.atKey_put_same hD (keyU.key (keyU_mk x (by omega)))]
      simp [pgAt]
    · rw [Maps.atKey_put_other (by simp; omega), h.at_ x zd hx]
      simp [pgAt, e]
  · by_cases e : x = k
    · subst e
      simp only [if_true, Option.some.injEq] at hx
      subst hx
      exact ⟨(hb g hgm hg.lt).trans (by rw [pageOf_zero m x (h.zero x hp)]; exact hg), .inr rfl, hk⟩
    · simp only [if_neg e] at hx
      obtain ⟨r1, r2, r3⟩ := h.rows x gx hx
      exact ⟨(hb gx (h.ne_gm hx) r1.lt).trans r1, .inl r2, r3⟩
  · by_cases e : x = k
    · subst e; simp at hx
    · simp only [if_neg e] at hx; exact h.zero x hx i hi
  · by_cases e : x = k
    · by_cases e2 : y = k
      · rw [e, e2]
      · simp only [if_pos e, Option.some.injEq] at hx
        simp only [if_neg e2] at hy
        subst hx
        exact absurd (h.rows y g hy).2.1 hF
    · by_cases e2 : y = k
      · simp only [if_pos e2, Option.some.injEq] at hy
        simp only [if_neg e] at hx
        subst hy
        exact absurd (h.rows x g hx).2.1 hF
      · simp only [if_neg e] at hx
        simp only [if_neg e2] at hy
        exact h.inj x y gx hx hy
  · rcases hbF with hbF | rfl
    · exact Nat.lt_of_lt_of_le (h.flt b hbF) hgr.size
    · exact Nat.lt_of_lt_of_le hg.lt hgr.size
/-- a page is written -/
theorem put (h : PM w p ram m F N bm D pg) {k g o : Nat} {l : List UInt8} (hp : pg k = some g) (ho : o + l.length ≤ 4096) (hgr : w.grownBy w' (some g)) (hg : Blk w' g 5 (bcells ((pageOf m k).take o ++ l ++ (pageOf m k).drop (o + l.length))).toArray) :
    PM w' p ram (writeM m (4096 * k + o) l) F N bm D pg := by
  have hb : ∀ b, b ≠ g → b < w.heap.size → w'.heap[b]? = w.heap[b]? := fun b hb hl => hgr.block b hl (fun e => hb (Option.some.inj e))
  obtain ⟨es, clock, h1, h2, h3, h4⟩ := h.own
  have hmlt : bm < w.heap.size := (Array.getElem?_eq_some_iff.1 h1).1
  refine ⟨(hb p (h.ne_gp hp).symm h.blk.lt).trans h.blk, ⟨es, clock, (hb bm (h.ne_gm hp).symm hmlt).trans h1, h2, h3, h4⟩, h.at_, fun x gx hx => ?_, fun x hx i hi => ?_, h.inj, h.fp, h.fm, fun b hbF => Nat.lt_of_lt_of_le (h.flt b hbF) hgr.size⟩
  · obtain ⟨r1, r2, r3⟩ := h.rows x gx hx
    by_cases e : x = k
    · subst e
      rw [hp] at hx
      cases hx
      exact ⟨by rw [pageOf_write m x o l ho]; exact hg, r2, r3⟩
    · have hne : gx ≠ g := fun e2 => e (h.inj x k g (e2 ▸ hx) hp)
      rw [pageOf_other m k x o l ho e]
      exact ⟨(hb gx hne r1.lt).trans r1, r2, r3⟩
  · have e : x ≠ k := fun e => by rw [e, hp] at hx; cases hx
    rw [writeM_out]
    · exact h.zero x hx i hi
    · rcases Nat.lt_or_gt_of_ne e with h5 | h5 <;> omega
end PM
theorem PMem.keep {w w' : World} {p : Nat} {ram : Sp} {m : Mm} {F : Nat → Prop} {N : Nat} (h : PMem w p ram m F N) (hs : w.heap.size ≤ w'.heap.size) (hb : ∀ b, F b → b < w.heap.size → w'.heap[b]? = w.heap[b]?) : PMem w' p ram m F N := by
  obtain ⟨bm, D, pg, h⟩ := h
  exact ⟨bm, D, pg, h.keep hs (fun b hF => hb b hF (h.flt b hF))⟩
theorem PMem.more {w : World} {p : Nat} {ram : Sp} {m : Mm} {F : Nat → Prop} {N N' : Nat} (h : PMem w p ram m F N) (hN : N ≤ N') : PMem w p ram m F N' := by
  obtain ⟨bm, D, pg, h⟩ := h
  exact ⟨bm, D, pg, h.more hN⟩
theorem PMem.flt {w : World} {p : Nat} {ram : Sp} {m : Mm} {F : Nat → Prop} {N : Nat} (h : PMem w p ram m F N) : ∀ b, F b → b < w.heap.size := by
  obtain ⟨bm, D, pg, h⟩ := h
  exact h.flt
theorem PMem.below {w w' : World} {p : Nat} {ram : Sp} {m : Mm} {F : Nat → Prop} {N : Nat} (h : PMem w p ram m F N) {n : Nat} (c : Below n w w') (hn : w.heap.size ≤ n) : PMem w' p ram m F N :=
  h.keep c.size fun b _ hl => c.block b (Nat.lt_of_lt_of_le hl hn)
end Go.Proofs.Ytjfmgoickokbjaa
