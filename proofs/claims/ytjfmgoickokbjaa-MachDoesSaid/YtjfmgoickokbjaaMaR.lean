/-
  Walk: portreevelaw09.few: whether deeds and chunks are few.
-/
import Derived.Test.YtjfmgoickokbjaaMaQ
namespace Go.Proofs.Ytjfmgoickokbjaa
open Go.RowKit

structure Dd where
  kind : Int
  at_ : Nat
  num : Nat
  A : Option Addr
  n : Nat
  c : Nat
  l : List UInt8
def Dd.cells (d : Dd) : List Value := [.int .i64 d.kind, .int .u64 (d.at_ : Int), .int .u64 (d.num : Int), .slice d.A d.n d.c]
def dcells (l : List Dd) : List Value := l.flatMap Dd.cells
structure Dd.ok (w : World) (B : Nat) (d : Dd) : Prop where
  kind : (Lit.int .i64 d.kind).wf = true
  at_ : d.at_ < 18446744073709551616
  num : d.num < 18446744073709551616
  cap : d.n ≤ d.c ∧ d.c ≤ 9223372036854775807
  rd : Rd w B 1 d.A d.n (bcells d.l)
theorem Dd.ok.len {w : World} {B : Nat} {d : Dd} (h : d.ok w B) : d.n = d.l.length := by have := h.rd.len; rw [bcells_length] at this; omega
theorem dcells_length (l : List Dd) : (dcells l).length = l.length * 4 := by
  induction l with
  | nil => rfl
  | cons s l ih => simp only [dcells, List.flatMap_cons, List.length_append] at *; rw [ih]; simp [Dd.cells]; omega
theorem dcells_get : ∀ (l : List Dd) (k : Nat) (s : Dd), l[k]? = some s → ((dcells l).drop (k * 4)).take 4 = s.cells
  | [], k, s, h => by simp at h
  | x :: l, 0, s, h => by
    simp at h; subst h
    simp [dcells, Dd.cells]
  | x :: l, k + 1, s, h => by
    have := dcells_get l k s (by simpa using h)
    simp only [dcells, List.flatMap_cons]
    rw [show (k + 1) * 4 = 4 + k * 4 by omega, ← List.drop_drop, List.drop_left' (by simp [Dd.cells])]
    exact this
theorem rd_deed {w : World} {B n : Nat} {b off : Nat} {l : List Dd} (h : Rd w B 4 (some ⟨b, off, none⟩) n (dcells l)) (k : Nat) (s : Dd) (hk : l[k]? = some s) : w.rangeAt b (off + k * 4) s.cells := by
  obtain ⟨hlt, _⟩ := List.getElem?_eq_some_iff.1 hk
  have hn : n = l.length := by have := h.len; rw [dcells_length] at this; omega
  obtain ⟨b', off', e, _, hr⟩ := h.range (by omega)
  cases e
  intro j v hv
  have hg := dcells_get l k s hk
  have hv2 : (dcells l)[k * 4 + j]? = some v := by
    have h1 : (((dcells l).drop (k * 4)).take 4)[j]? = some v := by rw [hg]; exact hv
    rw [List.getElem?_take] at h1
    split at h1
    · rwa [List.getElem?_drop] at h1
    · cases h1
  have := hr (k * 4 + j) v hv2
  rwa [← Nat.add_assoc] at this
theorem infDd : (Try.prog.info? 69).map (·.size) = some 4 := by kernel_rfl
theorem zeroDd (w : World) : (zeroValue 69).run Try.prog w = .ok (.agg #[.int .i64 0, .int .u64 0, .int .u64 0, .slice none 0 0]) w := by kernel_rfl
theorem dd_one (d : Dd) : ∀ v ∈ d.cells.toArray.toList, v.oneCell' = true := by
  intro v hv; simp only [Dd.cells, List.mem_cons, List.not_mem_nil, or_false] at hv; rcases hv with rfl | rfl | rfl | rfl <;> rfl
theorem ck_one (d : Ck) : ∀ v ∈ d.cells.toArray.toList, v.oneCell' = true := by
  intro v hv; simp only [Ck.cells, List.mem_cons, List.not_mem_nil, or_false] at hv; rcases hv with rfl | rfl <;> rfl

def ddFew (d : Dd) : Bool := decide (¬ (5000 < d.n ∨ (d.kind = 0 ∧ 20000 < d.num ∧ d.num ≤ 1048576)))
def ckFew (k : Ck) : Bool := decide (k.n ≤ 5000)
def fewV (L : List Dd) (J : List Ck) : Bool := decide (L.length ≤ 40 ∧ J.length ≤ 10) && L.all ddFew && J.all ckFew

set_option maxRecDepth 100000 in
set_option maxHeartbeats 4000000 in
theorem few_any (A : Option Addr) (n c : Nat) (L : List Dd) (A2 : Option Addr) (n2 c2 : Nat) (J : List Ck) (w : World) (hL : Rd w w.heap.size 4 A n (dcells L)) (hJ : Rd w w.heap.size 2 A2 n2 (ccells J)) (hLo : ∀ d ∈ L, d.ok w w.heap.size) (hJo : ∀ k ∈ J, k.ok w w.heap.size) :
    Calls Try.prog 11 #[.slice A n c, .slice A2 n2 c2] w (BoolRet w (fewV L J)) := by
  have hn : n = L.length := by have := hL.len; rw [dcells_length] at this; omega
  have hn2 : n2 = J.length := by have := hJ.len; rw [ccells_length] at this; omega
  have HN := Lib.hid hn
  have HN2 := Lib.hid hn2
  have HLO := Lib.hid hLo
  have HJO := Lib.hid hJo
  clear hn hn2 hLo hJo
  by_cases h40 : 40 < n ∨ 10 < n2
  · have hv : Hid (fewV L J = false) := Lib.hid (by rw [fewV, decide_eq_false (by rw [← HN.out, ← HN2.out]; omega)]; rfl)
    clear hL hJ
    go_enter Try.func11, Try.ntmps11
    go_wp2
    all_goals first
      | (go_ret; exact ⟨ret_bool hv.out.symm, Below.refl _ _⟩)
      | (exfalso; omega)
  · have h40n : n ≤ 40 := by omega
    have h10 : n2 ≤ 10 := by omega
    have hv : Hid (fewV L J = (L.all ddFew && J.all ckFew)) := Lib.hid (by rw [fewV, decide_eq_true (by rw [← HN.out, ← HN2.out]; omega)]; rfl)
    have hz1 := zeroDd
    have hz2 := zeroCk
    clear h40
    go_enter Try.func11, Try.ntmps11
    go_wp2
    go_loopw [19] (fun v wr => ∃ k : Nat, k ≤ n ∧ v = .int .i64 k ∧ Below w.heap.size w wr ∧ Hid (∀ d ∈ L.take k, ddFew d = true)) (fun v _ => n - (intOf v).toNat)
    case atStart => exact ⟨0, Nat.zero_le _, rfl, Below.refl _ _, Lib.hid (by simp)⟩
    case round =>
      obtain ⟨k, hk, rfl, hB, hall⟩ := hrel
      by_cases hlt : k < n
      · obtain ⟨d, hd⟩ : ∃ d, L[k]? = some d := ⟨_, List.getElem?_eq_getElem (by rw [← HN.out]; exact hlt)⟩
        have hdo := HLO.out d (List.mem_of_getElem? hd)
        have hk1 := hdo.kind
        have hk3 := hdo.num
        obtain ⟨ba, bo, rfl, _, _⟩ := hL.range (by omega)
        have hrng := rd_deed (hL.below hB) k d hd
        have hdz := Blk.new wr 69 #[.int .i64 0, .int .u64 0, .int .u64 0, .slice none 0 0]
        have HD := Lib.hid hd
        have hbad : Hid (ddFew d = false → fewV L J = false) := Lib.hid (fun h => by
          rw [hv.out, show L.all ddFew = false from List.all_eq_false.2 ⟨d, List.mem_of_getElem? HD.out, by rw [h]; simp⟩]; rfl)
        have hgood : Hid (ddFew d = true → ∀ x ∈ L.take (k + 1), ddFew x = true) := Lib.hid (fun h x hx => by
          rw [List.take_add_one, HD.out] at hx
          simp only [Option.toList_some, List.mem_append, List.mem_singleton] at hx
          rcases hx with hx | rfl
          · exact hall.out x hx
          · exact h)
        clear hd hdo
        go_wp2_with (first
          | ((with_reducible refine at_load 69 ?_); refine wpList_load_mid rfl 69 _ rfl ba (bo + k * 4) rfl d.cells _ hrng Try.underlying69 rfl infDd ?_)
          | ((with_reducible refine at_store 69 ?_); refine wpList_storeAll _ rfl 69 _ _ rfl wr.heap.size 69 _ d.cells.toArray hdz rfl rfl rfl infDd (dd_one d) ?_; intro w3 hb3 hg3 hs3; have cc0 : w3.cell? ⟨wr.heap.size, 0, none⟩ = some (.int .i64 d.kind) := (hb3.cell 0).trans rfl; have cc2 : w3.cell? ⟨wr.heap.size, 2, none⟩ = some (.int .u64 (d.num : Int)) := (hb3.cell 2).trans rfl; have cc3 : w3.cell? ⟨wr.heap.size, 3, none⟩ = some (.slice d.A d.n d.c) := (hb3.cell 3).trans rfl; have B3 := grown_below (hB.alloc hB.size (.cells #[.int .i64 0, .int .u64 0, .int .u64 0, .slice none 0 0] 69)) hg3 (by simp; have := hB.size; omega) hB.size))
        all_goals first
          | (go_ret; refine ⟨ret_bool ?_, B3⟩; rw [hbad.out (by unfold ddFew; exact decide_eq_false (by omega))])
          | (go_roundw; (case rel => exact ⟨k + 1, by omega, by go_num, B3, Lib.hid (hgood.out (by unfold ddFew; exact decide_eq_true (by omega)))⟩); (case measure => simp [intOf]; omega))
      · obtain rfl : k = n := by omega
        have hLall : Hid (L.all ddFew = true) := Lib.hid (List.all_eq_true.2 (fun x hx => hall.out x (by rw [List.take_of_length_le (by rw [HN.out]; exact Nat.le_refl _)]; exact hx)))
        clear hall hL
        go_wp2
        go_loopw [45] (fun v wr2 => ∃ j : Nat, j ≤ n2 ∧ v = .int .i64 j ∧ Below w.heap.size w wr2 ∧ Hid (∀ d ∈ J.take j, ckFew d = true)) (fun v _ => n2 - (intOf v).toNat)
        case atStart => exact ⟨0, Nat.zero_le _, rfl, hB, Lib.hid (by simp)⟩
        case round =>
          obtain ⟨j, hj, rfl, hB2, hall⟩ := hrel
          by_cases hlt2 : j < n2
          · obtain ⟨d, hd⟩ : ∃ d, J[j]? = some d := ⟨_, List.getElem?_eq_getElem (by rw [← HN2.out]; exact hlt2)⟩
            obtain ⟨ba, bo, rfl, _, _⟩ := hJ.range (by omega)
            have hrng := rd_chunk (hJ.below hB2) j d hd
            have hdz := Blk.new wr 78 #[.int .u64 0, .slice none 0 0]
            have HD := Lib.hid hd
            have hbad : Hid (ckFew d = false → fewV L J = false) := Lib.hid (fun h => by
              rw [hv.out, show J.all ckFew = false from List.all_eq_false.2 ⟨d, List.mem_of_getElem? HD.out, by rw [h]; simp⟩, Bool.and_false])
            have hgood : Hid (ckFew d = true → ∀ x ∈ J.take (j + 1), ckFew x = true) := Lib.hid (fun h x hx => by
              rw [List.take_add_one, HD.out] at hx
              simp only [Option.toList_some, List.mem_append, List.mem_singleton] at hx
              rcases hx with hx | rfl
              · exact hall.out x hx
              · exact h)
            clear hd
            go_wp2_with (first
              | ((with_reducible refine at_load 78 ?_); refine wpList_load_mid rfl 78 _ rfl ba (bo + j * 2) rfl d.cells _ hrng Try.underlying78 rfl infCk ?_)
              | ((with_reducible refine at_store 78 ?_); refine wpList_storeAll _ rfl 78 _ _ rfl wr.heap.size 78 _ d.cells.toArray hdz rfl rfl rfl infCk (ck_one d) ?_; intro w3 hb3 hg3 hs3; have cc1 : w3.cell? ⟨wr.heap.size, 1, none⟩ = some (.slice d.A d.n d.c) := (hb3.cell 1).trans rfl; have B3 := grown_below (hB2.alloc hB2.size (.cells #[.int .u64 0, .slice none 0 0] 78)) hg3 (by simp; have := hB2.size; omega) hB2.size))
            all_goals first
              | (go_ret; refine ⟨ret_bool ?_, B3⟩; rw [hbad.out (by unfold ckFew; exact decide_eq_false (by omega))])
              | (go_roundw; (case rel => exact ⟨j + 1, by omega, by go_num, B3, Lib.hid (hgood.out (by unfold ckFew; exact decide_eq_true (by omega)))⟩); (case measure => simp [intOf]; omega))
          · obtain rfl : j = n2 := by omega
            have hJall : Hid (J.all ckFew = true) := Lib.hid (List.all_eq_true.2 (fun x hx => hall.out x (by rw [List.take_of_length_le (by rw [HN2.out]; exact Nat.le_refl _)]; exact hx)))
            clear hall hJ
            go_wp2
            go_ret
            exact ⟨ret_bool (by rw [hv.out, hLall.out, hJall.out]; rfl), hB2⟩
end Go.Proofs.Ytjfmgoickokbjaa
