/-
  Walks: slices.Clone; the flash; the law MachFlashes.
-/
import Derived.Test.YtjfmgoickokbjaaMaO
namespace Go.Proofs.Ytjfmgoickokbjaa
open Go.RowKit

theorem run_empty (w : World) : (Instr.buildSlice 26 0 #[]).run Try.prog w = .ok (.slice (some ⟨w.heap.size, 0, none⟩) 0 0) (w.alloc (.cells #[] 5)) := by
  kernel_rfl
theorem sliceNe (a : Addr) (n c : Nat) (w : World) : (binOp .eql 26 (.slice (some a) n c) (.slice none 0 0)).run Try.prog w = .ok (.bool false) w := by kernel_rfl
theorem sliceNil (n c : Nat) (w : World) : (binOp .eql 26 (.slice none n c) (.slice none 0 0)).run Try.prog w = .ok (.bool true) w := by kernel_rfl

set_option maxRecDepth 100000 in
set_option maxHeartbeats 1000000 in
theorem clone_any (A : Option Addr) (n c : Nat) (l : List UInt8) (hn : n ≤ 1000000) (w : World) (hR : Rd w w.heap.size 1 A n (bcells l)) :
    Calls Try.prog 42 #[.slice A n c] w fun e w' => ∃ A' c', e = .returned (.slice A' n c') ∧ n ≤ c' ∧ Rd w' w'.heap.size 1 A' n (bcells l) ∧ Below w.heap.size w w' := by
  have hl : n = l.length := by have := hR.len; rw [bcells_length] at this; omega
  cases A with
  | none =>
    have h0 : n = 0 := by
      rcases Nat.eq_zero_or_pos n with h | h
      · exact h
      · obtain ⟨b, off, e, _⟩ := hR.range (by omega); cases e
    have hl0 : l = [] := List.eq_nil_of_length_eq_zero (by omega)
    subst hl0
    clear hl
    subst h0
    have hq := sliceNil 0 c
    go_enter Try.func42, Try.ntmps42
    go_wp2
    go_ret
    exact ⟨none, 0, rfl, Nat.le_refl _, Rd.nil _ _ _ _, Below.refl _ _⟩
  | some a =>
    have hq := sliceNe a n c
    have HL := Lib.hid hl
    clear hl
    go_enter Try.func42, Try.ntmps42
    have hb := Blk.new w 5 #[]
    have B1 : Below w.heap.size w (w.alloc (.cells #[] 5)) := (Below.refl _ _).alloc (Nat.le_refl _) _
    have hO := hb.own (base := w.heap.size) (size := 1) (n := 0) (m := 0) (Nat.le_refl _) rfl (Nat.le_refl _) (by omega)
    have hR1 := (hR.below B1).more B1.size
    go_wp2_with (first
      | ((with_reducible refine at_buildSlice 26 ?_); refine wpList_runV rfl (Flow.reg_buildSlice #[] rfl (by simp) (run_empty w)) ?_)
      | (at_builtin; refine wpList_app _ el8m rfl _ _ rfl w.heap.size (some ⟨w.heap.size, 0, none⟩) 0 0 [] rfl (by simpa using hO) _ (some a) n c _ rfl hR1 (bcells_one l) (by omega) (by omega) (by simp) ?_; intro A1 c1 w1 hO1 hg hB _))
    go_ret
    rw [List.nil_append, Nat.zero_add] at hO1
    refine ⟨A1, c1, ?_, ?_, Rd.of_own hO1, B1.trans hB⟩
    · rfl
    · exact Flow.own_le hO1

/-- a flash: its bytes -/
def FL (w : World) (f : Nat) (l : List UInt8) : Prop := ∃ A c, Blk w f 89 #[.slice A l.length c] ∧ l.length ≤ c ∧ Rd w w.heap.size 1 A l.length (bcells l)
theorem FL.below {w w' : World} {f : Nat} {l : List UInt8} (h : FL w f l) (hB : Below w.heap.size w w') : FL w' f l := by
  obtain ⟨A, c, h1, h2, h3⟩ := h
  exact ⟨A, c, h1.below hB h1.lt, h2, (h3.below hB).more hB.size⟩
def getE (l : List UInt8) (off n : Nat) : Int := if n = 0 then 0 else if l.length < off + n then 151 else 0
def getV (l : List UInt8) (off n : Nat) : List UInt8 := if n = 0 then [] else if l.length < off + n then [] else (l.drop off).take n
theorem getV_ok {l : List UInt8} {off n : Nat} (h0 : ¬ n = 0) (h1 : ¬ l.length < off + n) : getV l off n = (l.drop off).take n ∧ getE l off n = 0 ∧ (getV l off n).length = n := by
  have e : getV l off n = (l.drop off).take n := by rw [getV, if_neg h0, if_neg h1]
  refine ⟨e, by rw [getE, if_neg h0, if_neg h1], ?_⟩
  rw [e, List.length_take, List.length_drop]; omega
theorem rd_partM {w : World} {B b off n c : Nat} {l : List UInt8} (hR : Rd w B 1 (some ⟨b, off, none⟩) n (bcells l)) (hc : n ≤ c) (f k : Nat) (hk : f + k ≤ n) :
    Rd w B 1 (some (if c = f then ⟨b, off, none⟩ else ⟨b, off + f, none⟩)) k (bcells ((l.drop f).take k)) := by
  have h1 := (hR.cut (k := f) hc).front (k := k) (by omega)
  have e1 : ((bcells l).drop (f * 1)).take (k * 1) = bcells ((l.drop f).take k) := by rw [Nat.mul_one, Nat.mul_one]; simp [bcells]
  rw [e1] at h1
  have e2 : (if c = f then (some ⟨b, off, none⟩ : Option Addr) else (some ⟨b, off, none⟩ : Option Addr).map (·.add (f * 1))) = some (if c = f then ⟨b, off, none⟩ else ⟨b, off + f, none⟩) := by
    split
    · rfl
    · simp [Addr.add]
  rw [e2] at h1
  exact h1
theorem run_fl (w : World) (A : Option Addr) (n c : Nat) : (Instr.build 89 #[(0, .slice A n c)]).run Try.prog w = .ok (.agg #[.slice A n c]) w := by
  have := run_build_rows (P := Try.prog) w (t := 89) (z := #[.slice none 0 0]) #[(0, .slice A n c)] [.slice A n c] [(0, 1)]
    Try.underlying89 (by kernel_rfl) (by kernel_rfl) rfl (by simp [Rows1, Value.cells]) (by simp [flat, Value.cells])
  simpa [flat, Value.cells] using this

set_option maxRecDepth 100000 in
theorem burn_any (A : Option Addr) (n c : Nat) (l : List UInt8) (hn : n ≤ 1000000) (w : World) (hR : Rd w w.heap.size 1 A n (bcells l)) :
    Calls Try.prog 18 #[.slice A n c] w fun e w' => ∃ f, e = .returned (.pointer (some ⟨f, 0, none⟩)) ∧ w.heap.size ≤ f ∧ FL w' f l ∧ Below w.heap.size w w' := by
  have hl : n = l.length := by have := hR.len; rw [bcells_length] at this; omega
  have HL := Lib.hid hl
  clear hl
  go_enter Try.func18, Try.ntmps18
  go_wp2_with fail
  refine (clone_any A n c l hn w hR).mono ?_
  rintro e W1 ⟨A1, c1, rfl, h1, hR1, B1⟩
  go_wp2_with ((with_reducible refine at_build 89 ?_); refine wpList_buildV _ rfl #[(0, .slice A1 n c1)] rfl (by simp [Act.eval]) (run_fl _ _ _ _) ?_)
  go_ret
  refine ⟨W1.heap.size, rfl, B1.size, ⟨A1, c1, ?_, ?_, ?_⟩, B1.alloc B1.size _⟩
  · rw [← HL.out]; exact Blk.new _ _ _
  · rw [← HL.out]; exact h1
  · rw [← HL.out]; exact (hR1.alloc (Nat.le_refl _) _).more (by simp)
set_option maxRecDepth 100000 in
theorem flen_any (f : Nat) (l : List UInt8) (w : World) (hF : FL w f l) : Calls Try.prog 19 #[.pointer (some ⟨f, 0, none⟩)] w fun e w' => e = .returned (.int .i64 (l.length : Int)) ∧ w = w' := by
  obtain ⟨A, c, h1, h2, h3⟩ := hF
  have c0 : w.cell? ⟨f, 0, none⟩ = some (.slice A l.length c) := (h1.cell 0).trans rfl
  have hq := flNe f
  clear h1 h3
  go_enter Try.func19, Try.ntmps19
  go_wp2
  go_ret
  exact ⟨rfl, rfl⟩
set_option maxRecDepth 100000 in
set_option maxHeartbeats 1000000 in
theorem mget_any (f : Nat) (l : List UInt8) (hl5 : l.length ≤ 1000000) (off n : Nat) (ho : off < 4294967296) (hn : n < 4294967296) (w : World) (hF : FL w f l) :
    Calls Try.prog 20 #[.pointer (some ⟨f, 0, none⟩), .int .u32 (off : Int), .int .u32 (n : Int)] w (BErr w (getV l off n) (getE l off n)) := by
  obtain ⟨A, c, h1, h2, h3⟩ := hF
  have c0 : w.cell? ⟨f, 0, none⟩ = some (.slice A l.length c) := (h1.cell 0).trans rfl
  have hq := flNe f
  obtain ⟨LN, hLN⟩ : ∃ k, k = l.length := ⟨_, rfl⟩
  rw [← hLN] at c0 h2 h3 hl5
  have HLN := Lib.hid hLN
  have e1 : IntKind.u64.wrap (off : Int) = (off : Int) := IntWalk.u64_in _ (by omega)
  have e2 : IntKind.u64.wrap (n : Int) = (n : Int) := IntWalk.u64_in _ (by omega)
  have e3 : IntKind.u64.wrap (LN : Int) = (LN : Int) := IntWalk.u64_in _ (by omega)
  have e4 : IntKind.u64.wrap ((off : Int) + (n : Int)) = (off : Int) + (n : Int) := IntWalk.u64_in _ (by omega)
  clear h1 hLN
  by_cases h0 : n = 0
  · subst h0
    go_enter Try.func20, Try.ntmps20
    go_wp2
    go_ret2
    rw [getV, getE, if_pos rfl, if_pos rfl]
    exact ⟨none, 0, rfl, Nat.le_refl _, Rd.nil _ _ _ _, Below.refl _ _⟩
  · by_cases hlt : LN < off + n
    · have hv : Hid (getV l off n = [] ∧ getE l off n = 151) := Lib.hid (by rw [getV, getE, if_neg h0, if_neg h0, if_pos (by rw [← HLN.out]; exact hlt), if_pos (by rw [← HLN.out]; exact hlt)]; exact ⟨rfl, rfl⟩)
      have hpos : 0 < n := by omega
      have hlti : (LN : Int) < (off : Int) + (n : Int) := by omega
      clear h0 hlt
      go_enter Try.func20, Try.ntmps20
      go_wp2
      go_ret2
      rw [hv.out.1, hv.out.2]
      exact ⟨none, 0, rfl, Nat.le_refl _, Rd.nil _ _ _ _, Below.refl _ _⟩
    · obtain ⟨g1, g2, g3⟩ := getV_ok h0 (show ¬ l.length < off + n by rw [← HLN.out]; exact hlt)
      obtain ⟨b, o, rfl, _, _⟩ := h3.range (by omega)
      have hp := rd_partM h3 h2 off n (by omega)
      rw [← g1] at hp
      have hsl := fun W => run_slice_lhK (P := Try.prog) W 26 (by kernel_rfl) (by kernel_rfl) b o LN c off n .u32 .u64 (off : Int) ((off : Int) + (n : Int)) rfl (by omega) (by omega)
      generalize (if c = off then (⟨b, o, none⟩ : Addr) else ⟨b, o + off, none⟩) = A1 at hp hsl
      have hcl := clone_any (some A1) n (c - off) (getV l off n) (by omega) w hp
      have hpos : 0 < n := by omega
      have hle : (off : Int) + (n : Int) ≤ (LN : Int) := by omega
      have G2 := Lib.hid g2
      have G3 := Lib.hid g3
      clear h0 hlt g1 g2 g3 hp
      go_enter Try.func20, Try.ntmps20
      go_wp2_with fail
      refine Calls.mono hcl ?_
      rintro e W1 ⟨A2, c2, rfl, k1, k2, k3⟩
      clear hcl hsl
      go_wp2
      go_ret2
      rw [G2.out]
      exact ⟨A2, c2, by rw [G3.out]; rfl, by rw [G3.out]; exact k1, by rw [G3.out]; exact k2, k3⟩
/-- .. and it lies below bs -/
def BErrB (bs : Nat) (w : World) (L : List UInt8) (x : Int) (e : Ending) (w' : World) : Prop := ∃ A c, e = .returned (.tuple #[.slice A L.length c, .int .i64 x]) ∧ L.length ≤ c ∧ Rd w' bs 1 A L.length (bcells L) ∧ Below w.heap.size w w'
set_option maxRecDepth 100000 in
set_option maxHeartbeats 1000000 in
theorem rget_bs (A : Option Addr) (LN c : Nat) (l : List UInt8) (hl5 : LN ≤ 1000000) (hcc : LN ≤ c) (off n : Nat) (ho : off < 4294967296) (hn : n < 4294967296) (w : World) (bs : Nat) (h3 : Rd w bs 1 A LN (bcells l)) :
    Calls Try.prog 21 #[.slice A LN c, .int .u32 (off : Int), .int .u32 (n : Int)] w (BErrB bs w (getV l off n) (getE l off n)) := by
  have hLN : LN = l.length := by have := h3.len; rw [bcells_length] at this; omega
  have HLN := Lib.hid hLN
  have e1 : IntKind.u64.wrap (off : Int) = (off : Int) := IntWalk.u64_in _ (by omega)
  have e2 : IntKind.u64.wrap (n : Int) = (n : Int) := IntWalk.u64_in _ (by omega)
  have e3 : IntKind.u64.wrap (LN : Int) = (LN : Int) := IntWalk.u64_in _ (by omega)
  have e4 : IntKind.u64.wrap ((off : Int) + (n : Int)) = (off : Int) + (n : Int) := IntWalk.u64_in _ (by omega)
  clear hLN
  by_cases h0 : n = 0
  · subst h0
    go_enter Try.func21, Try.ntmps21
    go_wp2
    go_ret2
    rw [getV, getE, if_pos rfl, if_pos rfl]
    exact ⟨none, 0, rfl, Nat.le_refl _, Rd.nil _ _ _ _, Below.refl _ _⟩
  · by_cases hlt : LN < off + n
    · have hv : Hid (getV l off n = [] ∧ getE l off n = 151) := Lib.hid (by rw [getV, getE, if_neg h0, if_neg h0, if_pos (by rw [← HLN.out]; exact hlt), if_pos (by rw [← HLN.out]; exact hlt)]; exact ⟨rfl, rfl⟩)
      have hpos : 0 < n := by omega
      have hlti : (LN : Int) < (off : Int) + (n : Int) := by omega
      clear h0 hlt
      go_enter Try.func21, Try.ntmps21
      go_wp2
      go_ret2
      rw [hv.out.1, hv.out.2]
      exact ⟨none, 0, rfl, Nat.le_refl _, Rd.nil _ _ _ _, Below.refl _ _⟩
    · obtain ⟨g1, g2, g3⟩ := getV_ok h0 (show ¬ l.length < off + n by rw [← HLN.out]; exact hlt)
      obtain ⟨b, o, rfl, _, _⟩ := h3.range (by omega)
      have hp := rd_partM h3 hcc off n (by omega)
      rw [← g1] at hp
      have hsl := fun W => run_slice_lhK (P := Try.prog) W 26 (by kernel_rfl) (by kernel_rfl) b o LN c off n .u32 .u64 (off : Int) ((off : Int) + (n : Int)) rfl (by omega) (by omega)
      generalize (if c = off then (⟨b, o, none⟩ : Addr) else ⟨b, o + off, none⟩) = A1 at hp hsl
      have hpos : 0 < n := by omega
      have hle : (off : Int) + (n : Int) ≤ (LN : Int) := by omega
      have G2 := Lib.hid g2
      have G3 := Lib.hid g3
      clear h0 hlt g1 g2 g3
      go_enter Try.func21, Try.ntmps21
      go_wp2
      go_ret2
      rw [G2.out]
      exact ⟨some A1, c - off, by rw [G3.out]; rfl, by rw [G3.out]; omega, by rw [G3.out]; exact hp, Below.refl _ _⟩
theorem rget_any (A : Option Addr) (LN c : Nat) (l : List UInt8) (hl5 : LN ≤ 1000000) (hcc : LN ≤ c) (off n : Nat) (ho : off < 4294967296) (hn : n < 4294967296) (w : World) (h3 : Rd w w.heap.size 1 A LN (bcells l)) :
    Calls Try.prog 21 #[.slice A LN c, .int .u32 (off : Int), .int .u32 (n : Int)] w (BErr w (getV l off n) (getE l off n)) :=
  (rget_bs A LN c l hl5 hcc off n ho hn w w.heap.size h3).mono fun _ _ ⟨A, c, h1, h2, h3, h4⟩ => ⟨A, c, h1, h2, h3.more h4.size, h4⟩
end Go.Proofs.Ytjfmgoickokbjaa
