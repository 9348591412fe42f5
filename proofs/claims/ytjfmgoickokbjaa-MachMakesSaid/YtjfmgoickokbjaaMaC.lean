/-
  Walks: span.Pages (through slices.ContainsFunc, slices.IndexFunc).
-/
import Derived.Test.YtjfmgoickokbjaaMaB
import Derived.Deep.MidRow
namespace Go.Proofs.Ytjfmgoickokbjaa
open Go.RowKit

section
variable {P : Program} {ops : Array Oper} {rest : List Oper} {o : Oper} {a : Act} {Q : Exit → Act → World → Prop}
/-- a call of a function value -/
theorem wpList_callV {w : World} {f : FuncId} {fn : Func} {c : Code} {x : Tmp} {args : Array Operand} {tys : Array TypeId} {caps vals : Array Value} {R : Ending → World → Prop} (hgd : o.guard = none)
    (ho : o.op = .call { callee := .value (.tmp x), args := args, argTypes := tys }) (hx : a.tmps[x]?.getD undef = .func (.func f) #[] caps) (hf : P.funcs[f]? = some fn) (hb : fn.body = some c) (hname : (fn.name == "runtime.NumGoroutine") = false)
    (hv : args.map a.eval ++ caps = vals) (h : Calls P f vals w R) (hR : ∀ e w', R e w' → ∃ v, e = .returned v ∧ wpList P ops Q rest (a.put o.dst v) w') : wpList P ops Q (o :: rest) a w := by
  refine wpList_plain hgd fun K hK => ?_
  have h1 : fn.name ≠ "runtime.NumGoroutine" := by simpa using hname
  have hrun : (execOp a.eval o).run P w = .ok (.enter f vals) w := by
    simp [execOp, ho, resolve, Act.eval, hx, Deferred.ofValue, invoke, callFunc, hf, h1, hb]
    exact hv
  unfold Oper.wp
  rw [hrun]
  refine Calls.mono h fun e w' hr => ?_
  obtain ⟨v, rfl, h2⟩ := hR e w' hr
  exact hK _ _ h2
end
section
variable {P : Program} {ops : Array Oper} {rest : List Oper} {a : Act} {w : World} {Q : Exit → Act → World → Prop} {dst : Option Tmp} {ty : TypeId} {pos : String} {aft : Array Edge} {gd : Option (Nat × Bool)}
theorem at_callV (x : Tmp) {args : Array Operand} {tys : Array TypeId} (h : wpList P ops Q (⟨dst, .call ⟨.value (.tmp x), args, tys⟩, ty, pos, aft, gd⟩ :: rest) a w) : wpList P ops Q (⟨dst, .call ⟨.value (.tmp x), args, tys⟩, ty, pos, aft, gd⟩ :: rest) a w := h
end

theorem or_pages (a b : Nat) : (a ||| b) % 4096 = 0 ↔ a % 4096 = 0 ∧ b % 4096 = 0 := by
  have := Nat.or_mod_two_pow (a := a) (b := b) (n := 12)
  rw [show (2 : Nat) ^ 12 = 4096 from rfl] at this
  rw [this, Nat.or_eq_zero_iff]

set_option maxRecDepth 100000 in
theorem notPages_any (s : Sp) (ok : s.ok) (w : World) : Calls Try.prog 56 #[.agg s.cells] w (BoolRet w (!s.pages)) := by
  have hb := Blk.new w 24 s.cells
  have B : Below w.heap.size w (w.alloc (.cells s.cells 24)) := (Below.refl _ _).alloc (Nat.le_refl _) _
  have k1 := ok.base
  have k2 := ok.size
  go_enter Try.func56, Try.ntmps56
  go_wp2_with ((with_reducible refine at_load 24 ?_); refine wpList_loadAll _ rfl 24 _ rfl w.heap.size 24 s.cells hb _ rfl Try.underlying24 rfl infSpan ?_)
  generalize w.alloc (.cells s.cells 24) = W at *
  refine (good_any s ok W).mono ?_
  rintro e W2 ⟨rfl, hB⟩
  have hb2 := hb.below hB hb.lt
  obtain ⟨c0, c1⟩ := sp_cells hb2
  have B2 := B.trans (hB.mono B.size)
  clear hb B hB
  cases hg : s.good with
  | false =>
    have hx : Hid (s.pages = false) := Lib.hid (by simp [Sp.pages, hg])
    clear hg
    go_wp2
    go_ret
    refine ⟨ret_bool ?_, B2⟩
    rw [hx.out]; rfl
  | true =>
    have hx : Hid (s.pages = decide (s.base % 4096 = 0 ∧ s.size % 4096 = 0)) := Lib.hid (by simp [Sp.pages, hg])
    clear hg
    go_wp2
    all_goals
      go_ret
      refine ⟨ret_bool ?_, B2⟩
      rw [hx.out]
      rw [u64_or_nat _ _ k1 k2, Bool.eq_iff_iff]
      rw [show ((s.base ||| s.size : Nat) : Int).tmod 4096 = (((s.base ||| s.size) % 4096 : Nat) : Int) from rfl]
      simp only [bne_iff_ne, ne_eq, Bool.not_eq_true', decide_eq_false_iff_not, ← or_pages]
      omega
def scells (l : List Sp) : List Value := l.flatMap (·.cells.toList)
theorem scells_length (l : List Sp) : (scells l).length = l.length * 2 := by
  induction l with
  | nil => rfl
  | cons s l ih => simp only [scells, List.flatMap_cons, List.length_append] at *; rw [ih]; simp [Sp.cells]; omega
theorem scells_get : ∀ (l : List Sp) (k : Nat) (s : Sp), l[k]? = some s → ((scells l).drop (k * 2)).take 2 = s.cells.toList
  | [], k, s, h => by simp at h
  | x :: l, 0, s, h => by
    simp at h; subst h
    simp [scells, Sp.cells]
  | x :: l, k + 1, s, h => by
    have := scells_get l k s (by simpa using h)
    simp only [scells, List.flatMap_cons]
    rw [show (k + 1) * 2 = 2 + k * 2 by omega, ← List.drop_drop, List.drop_left' (by simp [Sp.cells])]
    exact this
/-- the k-th span of a row -/
theorem rd_span {w : World} {B n : Nat} {b off : Nat} {l : List Sp} (h : Rd w B 2 (some ⟨b, off, none⟩) n (scells l)) (k : Nat) (s : Sp) (hk : l[k]? = some s) : w.rangeAt b (off + k * 2) s.cells.toList := by
  obtain ⟨hlt, _⟩ := List.getElem?_eq_some_iff.1 hk
  have hn : n = l.length := by have := h.len; rw [scells_length] at this; omega
  obtain ⟨b', off', e, _, hr⟩ := h.range (by omega)
  cases e
  intro j v hv
  have hg := scells_get l k s hk
  have hv2 : (scells l)[k * 2 + j]? = some v := by
    have h1 : (((scells l).drop (k * 2)).take 2)[j]? = some v := by rw [hg]; exact hv
    rw [List.getElem?_take] at h1
    split at h1
    · rwa [List.getElem?_drop] at h1
    · cases h1
  have := hr (k * 2 + j) v hv2
  rwa [← Nat.add_assoc] at this

set_option maxRecDepth 100000 in
set_option maxHeartbeats 1000000 in
theorem idxPages_any (b off n c : Nat) (l : List Sp) (hok : ∀ s ∈ l, s.ok) (w : World) (hR : Rd w w.heap.size 2 (some ⟨b, off, none⟩) n (scells l)) (hn : n ≤ 1000000) :
    Calls Try.prog 66 #[.slice (some ⟨b, off, none⟩) n c, .func (.func 56) #[] #[]] w fun e w' =>
      ∃ i : Int, e = .returned (.int .i64 i) ∧ decide (0 ≤ i) = !(l.all Sp.pages) ∧ Below w.heap.size w w' := by
  have hnl : n = l.length := by have := hR.len; rw [scells_length] at this; omega
  have HL := Lib.hid hnl
  have HOK := Lib.hid hok
  clear hnl hok
  go_enter Try.func66, Try.ntmps66
  go_wp2
  go_loopw [8] (fun i wr => ∃ k : Nat, k ≤ n ∧ i = .int .i64 k ∧ Hid (∀ s ∈ l.take k, s.pages = true) ∧ Below w.heap.size w wr) (fun i _ => n - (intOf i).toNat)
  case atStart => exact ⟨0, Nat.zero_le _, rfl, Lib.hid (by simp), Below.refl _ _⟩
  case round =>
    obtain ⟨k, hk, rfl, hall, hB⟩ := hrel
    by_cases hlt : k < n
    · obtain ⟨s, hs⟩ : ∃ s, l[k]? = some s := ⟨_, List.getElem?_eq_getElem (by rw [← HL.out]; exact hlt)⟩
      have hok : s.ok := HOK.out s (List.mem_of_getElem? hs)
      have hrng := rd_span (hR.below hB) k s hs
      have HS := Lib.hid hs
      have hcall := notPages_any s hok wr
      obtain ⟨p, hp⟩ : ∃ p, p = s.pages := ⟨_, rfl⟩
      rw [← hp] at hcall
      have HP := Lib.hid hp
      clear hs hp
      cases p with
      | true =>
        go_wp2_with (first
          | ((with_reducible refine at_load 24 ?_); refine wpList_load_mid rfl 24 _ rfl b (off + k * 2) rfl s.cells.toList _ hrng Try.underlying24 rfl infSpan ?_)
          | ((with_reducible refine at_callV 11 ?_); refine wpList_callV (vals := #[.agg s.cells]) rfl rfl rfl Try.func56 rfl (by kernel_rfl) (by simp [Act.eval, Act.put]) hcall ?_; rintro e w5 ⟨rfl, hB5⟩; refine ⟨_, rfl, ?_⟩))
        go_roundw
        case rel => exact ⟨k + 1, by omega, by go_num, Lib.hid (by
          intro x hx
          rw [List.take_add_one, HS.out] at hx
          simp only [Option.toList_some, List.mem_append, List.mem_singleton] at hx
          rcases hx with hx | rfl
          · exact hall.out x hx
          · exact HP.out.symm), hB.trans (hB5.mono hB.size)⟩
        case measure => simp [intOf]; omega
      | false =>
        go_wp2_with (first
          | ((with_reducible refine at_load 24 ?_); refine wpList_load_mid rfl 24 _ rfl b (off + k * 2) rfl s.cells.toList _ hrng Try.underlying24 rfl infSpan ?_)
          | ((with_reducible refine at_callV 11 ?_); refine wpList_callV (vals := #[.agg s.cells]) rfl rfl rfl Try.func56 rfl (by kernel_rfl) (by simp [Act.eval, Act.put]) hcall ?_; rintro e w5 ⟨rfl, hB5⟩; refine ⟨_, rfl, ?_⟩))
        go_ret
        refine ⟨_, rfl, ?_, hB.trans (hB5.mono hB.size)⟩
        have hf : l.all Sp.pages = false := by
          rw [List.all_eq_false]
          exact ⟨s, List.mem_of_getElem? HS.out, by rw [← HP.out]; simp⟩
        rw [hf]; simp
    · obtain rfl : k = n := by omega
      go_wp2
      go_ret
      refine ⟨_, rfl, ?_, hB⟩
      have hf : l.all Sp.pages = true := by
        rw [List.all_eq_true]
        intro x hx
        exact hall.out x (by rw [List.take_of_length_le (by rw [HL.out]; exact Nat.le_refl _)]; exact hx)
      rw [hf]; rfl

set_option maxRecDepth 100000 in
theorem mpages_any (b off n c : Nat) (l : List Sp) (hok : ∀ s ∈ l, s.ok) (w : World) (hR : Rd w w.heap.size 2 (some ⟨b, off, none⟩) n (scells l)) (hn : n ≤ 1000000) :
    Calls Try.prog 33 #[.slice (some ⟨b, off, none⟩) n c] w (BoolRet w (l.all Sp.pages)) := by
  have hcf : Calls Try.prog 55 #[.slice (some ⟨b, off, none⟩) n c, .func (.func 56) #[] #[]] w (BoolRet w (!(l.all Sp.pages))) := by
    go_enter Try.func55, Try.ntmps55
    go_wp2_with fail
    refine (idxPages_any b off n c l hok w hR hn).mono ?_
    rintro e w' ⟨i, rfl, hi, hB⟩
    go_wp2
    go_ret
    exact ⟨ret_bool (by first | rfl | exact hi), hB⟩
  obtain ⟨p, hp⟩ : ∃ p, p = l.all Sp.pages := ⟨_, rfl⟩
  rw [← hp] at hcf ⊢
  clear hp hok hR
  go_enter Try.func33, Try.ntmps33
  go_wp2_with fail
  refine hcf.mono ?_
  rintro e w' ⟨rfl, hB⟩
  go_wp2
  go_ret
  exact ⟨ret_bool (by simp), hB⟩
end Go.Proofs.Ytjfmgoickokbjaa
