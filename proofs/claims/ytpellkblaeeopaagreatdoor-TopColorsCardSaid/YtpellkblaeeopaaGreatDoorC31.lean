/-
  Parts: GdA GdB GdC GdD GcJ GcK.
-/
import Derived.Test.YtpellkblaeeopaaGreatDoorC00
import Derived.Test.YtpellkblaeeopaaGreatDoorC03
import Derived.Test.YtpellkblaeeopaaGreatDoorC02
import Derived.Test.YtpellkblaeeopaaGreatDoorC30
/-
  Plain: descriptors of tables as numbers.
-/
namespace Go.Proofs.YtpellkblaeeopaaGreatDoor
open Go.RowKit

/-- a descriptor -/
structure Dc where
  kind : Nat
  pa : Nat
  perm : Nat
  mem : Nat
  af : Bool
def Dc.cells (d : Dc) : Array Value := #[.int .i64 (d.kind : Int), .int .u64 (d.pa : Int), .int .i64 (d.perm : Int), .int .i64 (d.mem : Int), .bool d.af]
/-- the size of a block of a level -/
def lvN (k : Nat) : Nat := if k = 1 then 1073741824 else if k = 2 then 2097152 else 4096
theorem lvN_pos (k : Nat) : 0 < lvN k := by unfold lvN; split <;> (try split) <;> omega
def oneN (b : Bool) : Nat := if b then 1 else 0
/-- fields of bits, put together -/
def joinN (l : List (Nat × Nat)) : Nat := l.foldl (fun w f => w ||| (f.2 * 2 ^ f.1 % 18446744073709551616)) 0
theorem joinN_snoc (l : List (Nat × Nat)) (f : Nat × Nat) : joinN (l ++ [f]) = joinN l ||| (f.2 * 2 ^ f.1 % 18446744073709551616) := by simp [joinN]
theorem joinN_lt (l : List (Nat × Nat)) : joinN l < 18446744073709551616 := by
  suffices h : ∀ (l : List (Nat × Nat)) (w : Nat), w < 2 ^ 64 → l.foldl (fun w f => w ||| (f.2 * 2 ^ f.1 % 18446744073709551616)) w < 2 ^ 64 from h l 0 (by omega)
  intro l
  induction l with
  | nil => exact fun w h => h
  | cons f l ih => exact fun w h => ih _ (Nat.or_lt_two_pow h (Nat.mod_lt _ (by omega)))
def fcells (l : List (Nat × Nat)) : List Value := l.flatMap fun f => [.int .i64 (f.1 : Int), .int .u64 (f.2 : Int)]
theorem fcells_length (l : List (Nat × Nat)) : (fcells l).length = l.length * 2 := by
  induction l with
  | nil => rfl
  | cons s l ih => simp only [fcells, List.flatMap_cons, List.length_append] at *; rw [ih]; simp; omega
def pr (p : Nat) : Bool := p % 2 == 1
def pw (p : Nat) : Bool := p / 2 % 2 == 1
def px (p : Nat) : Bool := p / 4 % 2 == 1
/-- the word of a leaf -/
def lowN (k p m : Nat) : Nat := 1025 + (if k = 3 then 2 else 0) + (if m = 1 then 516 else 828) + 64 * (p % 2) + 128 * (p / 2 % 2)
def leafW (k pa p m : Nat) : Nat := pa + lowN k p m + (1 - p / 4 % 2) * 18014398509481984
theorem p8 {p : Nat} (h : p < 8) : p = 0 ∨ p = 1 ∨ p = 2 ∨ p = 3 ∨ p = 4 ∨ p = 5 ∨ p = 6 ∨ p = 7 := by omega
theorem or3 (a b c n pa : Nat) (hb : b < 4096) (hpa : pa % 4096 = 0) (hl : pa < 1099511627776) (e : a = b + n * 18014398509481984) (hc : c = pa + a) : pa ||| a = c := by
  have e1 : a = n * 18014398509481984 ||| b := by rw [nat_join 54 _ _ (by omega) (by omega)]; omega
  rw [e1, ← Nat.or_assoc, Nat.or_comm pa, Nat.or_assoc, nat_join 12 pa b (by omega) (by omega), nat_join 54 _ _ (by omega) (by omega)]
  omega
theorem join_leaf (k pa p m : Nat) (hk : k = 1 ∨ k = 2 ∨ k = 3) (hp : p < 8) (hm : m < 2) (hpa : pa % 4096 = 0) (hl : pa < 1099511627776) :
    joinN [(0, pa), (0, 1), (1, oneN (k == 3)), (2, if m = 1 then 1 else 15), (8, if m = 1 then 2 else 3), (6, oneN (pr p)), (7, oneN (pw p)), (10, 1), (54, oneN (!px p))] = leafW k pa p m := by
  have e : ∀ a b c d e f : Nat, joinN [(0, pa), (0, 1), (1, a), (2, b), (8, c), (6, d), (7, e), (10, 1), (54, f)] = pa ||| joinN [(0, 1), (1, a), (2, b), (8, c), (6, d), (7, e), (10, 1), (54, f)] := by
    intro a b c d e f
    simp only [joinN, List.foldl_cons, List.foldl_nil, Nat.zero_or, Nat.pow_zero, Nat.mul_one, Nat.or_assoc]
    rw [Nat.mod_eq_of_lt (by omega : pa < 18446744073709551616)]
  rw [e]
  have hm2 : m = 0 ∨ m = 1 := by omega
  obtain ⟨X, hX⟩ : ∃ X, X = joinN [(0, 1), (1, oneN (k == 3)), (2, if m = 1 then 1 else 15), (8, if m = 1 then 2 else 3), (6, oneN (pr p)), (7, oneN (pw p)), (10, 1), (54, oneN (!px p))] := ⟨_, rfl⟩
  rw [← hX]
  have hXe : X = lowN k p m + (1 - p / 4 % 2) * 18014398509481984 := by
    rw [hX]
    rcases p8 hp with rfl | rfl | rfl | rfl | rfl | rfl | rfl | rfl <;> rcases hm2 with rfl | rfl <;> rcases hk with rfl | rfl | rfl <;> decide +kernel
  refine or3 X (lowN k p m) _ (1 - p / 4 % 2) pa ?_ hpa hl hXe ?_
  · unfold lowN; split <;> split <;> omega
  · rw [hXe]; unfold leafW; omega
theorem join_table (pa : Nat) (hpa : pa % 4096 = 0) (hl : pa < 1099511627776) : joinN [(0, pa), (0, 1), (1, 1)] = pa + 3 := by
  simp only [joinN, List.foldl_cons, List.foldl_nil, Nat.zero_or, Nat.pow_zero, Nat.mul_one, Nat.or_assoc]
  rw [Nat.mod_eq_of_lt (by omega : pa < 18446744073709551616)]
  exact nat_join 2 pa 3 (by omega) (by omega)
theorem leafW_lt (k pa p m : Nat) (hl : pa < 1099511627776) : leafW k pa p m < 18446744073709551616 := by
  unfold leafW lowN; split <;> split <;> omega
/-- bits of a word -/
def fieldN (w hi lo : Nat) : Nat := w % 2 ^ (hi + 1) / 2 ^ lo
end Go.Proofs.YtpellkblaeeopaaGreatDoor
/-
  Walk: desc.Size, one, joined, may.
-/
namespace Go.Proofs.YtpellkblaeeopaaGreatDoor
open Go.RowKit

set_option maxRecDepth 100000 in
theorem dsize_any (k : Nat) (hk : k = 1 ∨ k = 2 ∨ k = 3) (w : World) : Calls Tryz.prog 29 #[.int .i64 (k : Int)] w fun e w' => e = .returned (.int .u64 (lvN k : Int)) ∧ w' = w := by
  rcases hk with rfl | rfl | rfl
  all_goals
    go_enter Tryz.func29, Tryz.ntmps29
    go_wp2
    go_ret
    exact ⟨rfl, rfl⟩
set_option maxRecDepth 100000 in
theorem one_any (b : Bool) (w : World) : Calls Tryz.prog 114 #[.bool b] w fun e w' => e = .returned (.int .u64 (oneN b : Int)) ∧ w' = w := by
  cases b
  all_goals
    go_enter Tryz.func114, Tryz.ntmps114
    go_wp2
    go_ret
    exact ⟨rfl, rfl⟩
theorem elFld : Elem Tryz.prog 244 225 (.agg #[.int .i64 0, .int .u64 0]) 2 16 := Elem.of (by kernel_rfl) (by kernel_rfl) rfl (by omega)
theorem infFld : (Tryz.prog.info? 225).map (·.size) = some 2 := by kernel_rfl
theorem rd_fld {w : World} {B b off : Nat} {l : List (Nat × Nat)} {n : Nat} (h : Rd w B 2 (some ⟨b, off, none⟩) n (fcells l)) (k : Nat) (f : Nat × Nat) (hk : l[k]? = some f) : w.rangeAt b (off + k * 2) [.int .i64 (f.1 : Int), .int .u64 (f.2 : Int)] := by
  have hg : ∀ j, j < 2 → (fcells l)[k * 2 + j]? = [Value.int .i64 (f.1 : Int), .int .u64 (f.2 : Int)][j]? := by
    have : ∀ (l : List (Nat × Nat)) (k : Nat), l[k]? = some f → ∀ j, j < 2 → (fcells l)[k * 2 + j]? = [Value.int .i64 (f.1 : Int), .int .u64 (f.2 : Int)][j]? := by
      intro l
      induction l with
      | nil => intro k h; simp at h
      | cons s l ih =>
        intro k h j hj
        have e : fcells (s :: l) = [Value.int .i64 (s.1 : Int), .int .u64 (s.2 : Int)] ++ fcells l := rfl
        rw [e]
        cases k with
        | zero =>
          simp only [List.getElem?_cons_zero, Option.some.injEq] at h
          subst h
          rw [List.getElem?_append_left (by simp; omega)]; simp
        | succ k =>
          rw [List.getElem?_append_right (by simp; omega)]
          simp only [List.length_cons, List.length_nil]
          rw [show (k + 1) * 2 + j - (0 + 1 + 1) = k * 2 + j by omega]
          exact ih k (by simpa using h) j hj
    exact this l k hk
  intro j v hv
  have hj : j < 2 := by have := (List.getElem?_eq_some_iff.1 hv).1; simpa using this
  obtain ⟨a, e, _, hc⟩ := h.cell (k * 2 + j) v ((hg j hj).trans hv)
  cases e
  rw [Addr.add_mid] at hc
  rw [show off + k * 2 + j = off + (k * 2 + j) by omega]
  exact hc

set_option maxRecDepth 100000 in
set_option maxHeartbeats 2000000 in
theorem joined_any (b off n c : Nat) (l : List (Nat × Nat)) (hl : ∀ f ∈ l, f.1 < 64 ∧ f.2 < 18446744073709551616) (hn1 : n ≤ 1000000) (B : Nat) (w : World) (hR : Rd w B 2 (some ⟨b, off, none⟩) n (fcells l)) (hB : B ≤ w.heap.size) :
    Calls Tryz.prog 113 #[.slice (some ⟨b, off, none⟩) n c] w fun e w' => e = .returned (.int .u64 (joinN l : Int)) ∧ Below w.heap.size w w' := by
  have hln : l.length = n := by have := hR.len; rw [fcells_length] at this; omega
  have HLN := Lib.hid hln
  have HL := Lib.hid hl
  clear hln hl
  go_enter Tryz.func113, Tryz.ntmps113
  go_wp2
  go_loopw [3, 8] (fun z i wr => ∃ k : Nat, k ≤ n ∧ i = .int .i64 (k : Int) ∧ z = .int .u64 (joinN (l.take k) : Int) ∧ Below w.heap.size w wr) (fun _ i _ => n - (intOf i).toNat)
  case atStart => exact ⟨0, Nat.zero_le _, rfl, rfl, Below.refl _ _⟩
  case round =>
    obtain ⟨k, hk, rfl, rfl, hBw⟩ := hrel
    by_cases hlt : k < n
    · obtain ⟨f, hf⟩ : ∃ f, l[k]? = some f := ⟨_, List.getElem?_eq_getElem (by rw [HLN.out]; exact hlt)⟩
      obtain ⟨hf1, hf2⟩ := HL.out f (List.mem_of_getElem? hf)
      have hst : l.take (k + 1) = l.take k ++ [f] := by rw [List.take_add_one, hf]; rfl
      have hjn : joinN (l.take (k + 1)) = joinN (l.take k) ||| (f.2 * 2 ^ f.1 % 18446744073709551616) := by rw [hst, joinN_snoc]
      have hrng := rd_fld (hR.belowm hBw hB) k f hf
      obtain ⟨J, hJ⟩ : ∃ J, J = joinN (l.take k) := ⟨_, rfl⟩
      have hJl : J < 18446744073709551616 := by rw [hJ]; exact joinN_lt _
      rw [← hJ] at hjn ⊢
      have HJ := Lib.hid hjn
      obtain ⟨at_, n2⟩ := f
      simp only at hf1 hf2 hrng
      have g2 := Blk.new wr 225 #[.int .i64 (at_ : Int), .int .u64 (n2 : Int)]
      have B2 : Below w.heap.size w (wr.alloc (.cells #[.int .i64 (at_ : Int), .int .u64 (n2 : Int)] 225)) := hBw.alloc hBw.size _
      clear hst hjn hJ hf
      go_wp2_with (first
          | ((with_reducible refine at_load 225 ?_); refine wpList_load_mid rfl 225 _ rfl b (off + k * 2) rfl [.int .i64 (at_ : Int), .int .u64 (n2 : Int)] _ hrng Tryz.underlying225 rfl infFld ?_))
      have hw : IntKind.u64.wrap ((n2 : Int) * 2 ^ at_) = ((n2 * 2 ^ at_ % 18446744073709551616 : Nat) : Int) := by
        rw [IntKind.wrap_u64, Int.natCast_emod, Int.natCast_mul, Int.natCast_pow]
        rfl
      go_roundw
      case rel => exact ⟨k + 1, by omega, by go_num, by rw [HJ.out, hw, u64_or_nat _ _ hJl (Nat.mod_lt _ (by omega))], B2⟩
      case measure => simp [intOf]; omega
    · obtain rfl : k = n := by omega
      have hfin : l.take k = l := List.take_of_length_le (by rw [HLN.out]; exact Nat.le_refl _)
      rw [hfin]
      go_wp2
      go_ret
      exact ⟨rfl, hBw⟩
end Go.Proofs.YtpellkblaeeopaaGreatDoor
/-
  Walk: desc.may, desc.Put.
-/
namespace Go.Proofs.YtpellkblaeeopaaGreatDoor
open Go.RowKit

def lvCs (d : Dc) (k : Nat) : Array Value := #[.int .i64 (d.kind : Int), .int .u64 (d.pa : Int), .int .i64 (d.perm : Int), .int .i64 (d.mem : Int), .bool d.af, .int .i64 (k : Int)]
set_option maxRecDepth 100000 in
set_option maxHeartbeats 2000000 in
theorem may_table (pa k : Nat) (hk : k = 1 ∨ k = 2) (hpa : pa % 4096 = 0) (hl : pa < 1099511627776) (w : World) :
    Calls Tryz.prog 112 #[.agg (lvCs ⟨1, pa, 0, 0, false⟩ k)] w fun e w' => e = .returned (.bool true) ∧ Below w.heap.size w w' := by
  have hb := Blk.new w 222 (lvCs ⟨1, pa, 0, 0, false⟩ k)
  have hS : ∀ W, Calls Tryz.prog 29 #[.int .i64 (k : Int)] W fun e w' => e = .returned (.int .u64 (lvN k : Int)) ∧ w' = W := dsize_any k (by omega)
  have h1 : ((lvN k : Int) == 0) = false := by have := lvN_pos k; simp; omega
  have h2 : decide ((1099511627776 : Int) ≤ (pa : Int)) = false := by simp; omega
  have h3 : ((pa : Int).tmod 4096 == 0) = true := by
    rw [Int.tmod_eq_emod_of_nonneg (by omega)]; simp; omega
  have h3' : (pa : Int) % 4096 = 0 := by omega
  have h4 : decide ((k : Int) < 3) = true := by simp; omega
  have B0 : Below w.heap.size w (w.alloc (.cells (lvCs ⟨1, pa, 0, 0, false⟩ k) 222)) := (Below.refl _ _).alloc (Nat.le_refl _) _
  simp only [lvCs] at hb B0 ⊢
  go_enter Tryz.func112, Tryz.ntmps112
  go_wp2_with fail
  refine (hS _).mono ?_
  rintro e w1 ⟨rfl, rfl⟩
  go_wp2_with fail
  go_ret
  exact ⟨rfl, B0⟩
set_option maxRecDepth 100000 in
set_option maxHeartbeats 2000000 in
theorem may_leaf (pa k p m : Nat) (hk : k = 1 ∨ k = 2 ∨ k = 3) (hpa : pa % lvN k = 0) (hl : pa < 1099511627776) (hp : p < 8) (hm : m < 2) (w : World) :
    Calls Tryz.prog 112 #[.agg (lvCs ⟨if k = 3 then 3 else 2, pa, p, m, true⟩ k)] w fun e w' => e = .returned (.bool true) ∧ Below w.heap.size w w' := by
  obtain ⟨kd, hkd⟩ : ∃ kd, kd = if k = 3 then 3 else 2 := ⟨_, rfl⟩
  rw [← hkd]
  have hkd2 : (kd = 2 ∧ k ≠ 3) ∨ (kd = 3 ∧ k = 3) := by rw [hkd]; split <;> omega
  have hb := Blk.new w 222 (lvCs ⟨kd, pa, p, m, true⟩ k)
  have hS : ∀ W, Calls Tryz.prog 29 #[.int .i64 (k : Int)] W fun e w' => e = .returned (.int .u64 (lvN k : Int)) ∧ w' = W := dsize_any k (by omega)
  have h1 : ((lvN k : Int) == 0) = false := by have := lvN_pos k; simp; omega
  have h2 : decide ((1099511627776 : Int) ≤ (pa : Int)) = false := by simp; omega
  have h3 : ((pa : Int).tmod (lvN k : Int) == 0) = true := by
    rw [Int.tmod_eq_emod_of_nonneg (by omega)]; simp; omega
  have h3' : (pa : Int) % (lvN k : Int) = 0 := by omega
  have h5 : (lvN k : Int) ≠ 0 := by have := lvN_pos k; omega
  have h6 : decide ((0 : Int) ≤ (p : Int)) = true := by simp
  have h7 : decide ((p : Int) ≤ 7) = true := by simp; omega
  have h8 : ((kd : Int) == 0) = false := by simp; omega
  have h9 : ((kd : Int) == 1) = false := by simp; omega
  have B0 : Below w.heap.size w (w.alloc (.cells (lvCs ⟨kd, pa, p, m, true⟩ k) 222)) := (Below.refl _ _).alloc (Nat.le_refl _) _
  obtain ⟨q3, hq3⟩ : ∃ q, ((k : Int) == 3) = q := ⟨_, rfl⟩
  have hq3' : ((kd : Int) == 3) = q3 := by rw [← hq3]; rcases hkd2 with ⟨rfl, h⟩ | ⟨rfl, rfl⟩; (simp; omega); rfl
  obtain ⟨q2, hq2⟩ : ∃ q, ((kd : Int) == 2) = q := ⟨_, rfl⟩
  have hq23 : q2 = !q3 := by rw [← hq2, ← hq3]; rcases hkd2 with ⟨rfl, h⟩ | ⟨rfl, rfl⟩; (simp; omega); rfl
  obtain ⟨p0, hp0⟩ : ∃ q, ((p : Int) == 0) = q := ⟨_, rfl⟩
  obtain ⟨m0, hm0⟩ : ∃ q, ((m : Int) == 0) = q := ⟨_, rfl⟩
  have hm1 : ((m : Int) == 1) = !m0 := by rw [← hm0]; rcases (show m = 0 ∨ m = 1 by omega) with rfl | rfl <;> rfl
  subst hq23
  clear hkd
  obtain ⟨M, hM⟩ : ∃ M, M = lvN k := ⟨_, rfl⟩
  rw [← hM] at h1 h3 h3' h5
  simp only [← hM] at hS
  clear hM hpa hkd2 hm hk
  have c0 : (w.alloc (.cells (lvCs ⟨kd, pa, p, m, true⟩ k) 222)).cell? ⟨w.heap.size, 0, none⟩ = some (.int .i64 (kd : Int)) := (hb.cell 0).trans rfl
  have c1 : (w.alloc (.cells (lvCs ⟨kd, pa, p, m, true⟩ k) 222)).cell? ⟨w.heap.size, 1, none⟩ = some (.int .u64 (pa : Int)) := (hb.cell 1).trans rfl
  have c2 : (w.alloc (.cells (lvCs ⟨kd, pa, p, m, true⟩ k) 222)).cell? ⟨w.heap.size, 2, none⟩ = some (.int .i64 (p : Int)) := (hb.cell 2).trans rfl
  have c3 : (w.alloc (.cells (lvCs ⟨kd, pa, p, m, true⟩ k) 222)).cell? ⟨w.heap.size, 3, none⟩ = some (.int .i64 (m : Int)) := (hb.cell 3).trans rfl
  have c4 : (w.alloc (.cells (lvCs ⟨kd, pa, p, m, true⟩ k) 222)).cell? ⟨w.heap.size, 4, none⟩ = some (.bool true) := (hb.cell 4).trans rfl
  have c5 : (w.alloc (.cells (lvCs ⟨kd, pa, p, m, true⟩ k) 222)).cell? ⟨w.heap.size, 5, none⟩ = some (.int .i64 (k : Int)) := (hb.cell 5).trans rfl
  go_enter Tryz.func112, Tryz.ntmps112
  clear hb
  cases p0 <;> cases m0 <;> cases q3
  all_goals
    go_wp2_with fail
    refine (hS _).mono ?_
    rintro e w1 ⟨rfl, rfl⟩
    go_wp2_with fail
    go_ret
    exact ⟨rfl, B0⟩
end Go.Proofs.YtpellkblaeeopaaGreatDoor
/-
  Walk: desc.Put.
-/
namespace Go.Proofs.YtpellkblaeeopaaGreatDoor
open Go.RowKit

theorem run_fld (w : World) (a n : Nat) : (Instr.build 225 #[(0, .int .i64 (a : Int)), (1, .int .u64 (n : Int))]).run Tryz.prog w = .ok (.agg #[.int .i64 (a : Int), .int .u64 (n : Int)]) w := by
  have := run_build_rows (P := Tryz.prog) w (t := 225) (z := #[.int .i64 0, .int .u64 0]) #[(0, .int .i64 (a : Int)), (1, .int .u64 (n : Int))] [.int .i64 (a : Int), .int .u64 (n : Int)] [(0, 1), (1, 1)]
    Tryz.underlying225 (by kernel_rfl) (by kernel_rfl) rfl (by simp [Rows1, Value.cells]) (by simp [flat, Value.cells])
  simpa [flat, Value.cells] using this
def fldV (f : Nat × Nat) : Value := .agg #[.int .i64 (f.1 : Int), .int .u64 (f.2 : Int)]
theorem flat_fld (l : List (Nat × Nat)) : flat (l.map fldV) = fcells l := by
  induction l with
  | nil => rfl
  | cons f l ih => simp only [List.map_cons, flat, List.flatMap_cons, fcells] at *; rw [ih]; simp [fldV, Value.cells]
theorem run_flds9 (w : World) (f0 f1 f2 f3 f4 f5 f6 f7 f8 : Nat × Nat) : (Instr.buildSlice 244 9 #[(0, fldV f0), (1, fldV f1), (2, fldV f2), (3, fldV f3), (4, fldV f4), (5, fldV f5), (6, fldV f6), (7, fldV f7), (8, fldV f8)]).run Tryz.prog w = .ok (.slice (some ⟨w.heap.size, 0, none⟩) 9 9) (w.alloc (.cells (fcells [f0, f1, f2, f3, f4, f5, f6, f7, f8]).toArray 225)) := by
  have := run_buildSlice_all (P := Tryz.prog) w elFld 9 #[(0, fldV f0), (1, fldV f1), (2, fldV f2), (3, fldV f3), (4, fldV f4), (5, fldV f5), (6, fldV f6), (7, fldV f7), (8, fldV f8)] ([f0, f1, f2, f3, f4, f5, f6, f7, f8].map fldV) rfl rfl (by omega) (by omega) (by intro v hv; obtain ⟨f, _, rfl⟩ := List.mem_map.1 hv; rfl)
  rwa [flat_fld] at this
theorem run_flds3 (w : World) (f0 f1 f2 : Nat × Nat) : (Instr.buildSlice 244 3 #[(0, fldV f0), (1, fldV f1), (2, fldV f2)]).run Tryz.prog w = .ok (.slice (some ⟨w.heap.size, 0, none⟩) 3 3) (w.alloc (.cells (fcells [f0, f1, f2]).toArray 225)) := by
  have := run_buildSlice_all (P := Tryz.prog) w elFld 3 #[(0, fldV f0), (1, fldV f1), (2, fldV f2)] ([f0, f1, f2].map fldV) rfl rfl (by omega) (by omega) (by intro v hv; obtain ⟨f, _, rfl⟩ := List.mem_map.1 hv; rfl)
  rwa [flat_fld] at this
theorem infDesc : (Tryz.prog.info? 108).map (·.size) = some 5 := by kernel_rfl
/-- the front of Put -/
def PutRet (w : World) (x : Nat) (e : Ending) (w' : World) : Prop := e = .returned (.tuple #[.int .u64 (x : Int), .int .i64 0]) ∧ Below w.heap.size w w'
set_option maxRecDepth 100000 in
set_option maxHeartbeats 2000000 in
theorem dput_table (pa k : Nat) (hk : k = 1 ∨ k = 2) (hpa : pa % 4096 = 0) (hl : pa < 1099511627776) (w : World) :
    Calls Tryz.prog 95 #[.int .i64 (k : Int), .agg (Dc.cells ⟨1, pa, 0, 0, false⟩)] w (PutRet w (pa + 3)) := by
  have hmay := may_table pa k hk hpa hl
  have hjt := join_table pa hpa hl
  have hb0 := Blk.new w 108 (Dc.cells ⟨1, pa, 0, 0, false⟩)
  have hb1 := Blk.new (w.alloc (.cells (Dc.cells ⟨1, pa, 0, 0, false⟩) 108)) 222 (lvCs ⟨1, pa, 0, 0, false⟩ k)
  have hb01 := hb0.alloc (.cells (lvCs ⟨1, pa, 0, 0, false⟩ k) 222)
  have B0 : Below w.heap.size w ((w.alloc (.cells (Dc.cells ⟨1, pa, 0, 0, false⟩) 108)).alloc (.cells (lvCs ⟨1, pa, 0, 0, false⟩ k) 222)) := ((Below.refl _ w).alloc (Nat.le_refl _) _).alloc (by simp) _
  simp only [lvCs, Dc.cells] at hmay hb0 hb1 hb01 B0 ⊢
  go_enter Tryz.func95, Tryz.ntmps95
  go_wp2_with fail
  refine (hmay _).mono ?_
  rintro e w1 ⟨rfl, hB1⟩
  have hb2 := hb01.below hB1 hb01.lt
  have B1 := B0.trans (hB1.mono B0.size)
  have c1 : w1.cell? ⟨w.heap.size, 1, none⟩ = some (.int .u64 (pa : Int)) := (hb2.cell 1).trans rfl
  have c0 : w1.cell? ⟨w.heap.size, 0, none⟩ = some (.int .i64 1) := (hb2.cell 0).trans rfl
  clear hmay hb0 hb1 hb01 B0 hB1 hb2
  have hjd := joined_any w1.heap.size 0 3 3 [(0, pa), (0, 1), (1, 1)] (by simp only [List.mem_cons, List.not_mem_nil, or_false]; rintro f (rfl | rfl | rfl) <;> omega) (by omega) (w1.heap.size + 1) _ ((Blk.new w1 225 (fcells [(0, pa), (0, 1), (1, 1)]).toArray).rd (size := 2) (n := 3) rfl |>.more (by simp)) (by simp)
  rw [hjt] at hjd
  have Bj : Below w.heap.size w (w1.alloc (.cells (fcells [(0, pa), (0, 1), (1, 1)]).toArray 225)) := B1.alloc B1.size _
  have hrs := run_flds3 w1 (0, pa) (0, 1) (1, 1)
  have hr0 := run_fld w1 0 pa
  have hr1 := run_fld w1 0 1
  have hr2 := run_fld w1 1 1
  go_wp2_with (first
    | ((with_reducible refine at_buildSlice 244 ?_); refine wpList_runV rfl (Flow.reg_buildSlice _ rfl rfl hrs) ?_))
  refine hjd.mono ?_
  rintro e w2 ⟨rfl, hB2⟩
  go_wp2
  go_ret2
  exact ⟨rfl, Bj.trans (hB2.mono Bj.size)⟩
set_option maxRecDepth 100000 in
set_option maxHeartbeats 2000000 in
theorem dput_leaf (pa k p m : Nat) (hk : k = 1 ∨ k = 2 ∨ k = 3) (hpa : pa % lvN k = 0) (hl : pa < 1099511627776) (hp : p < 8) (hm : m < 2) (w : World) :
    Calls Tryz.prog 95 #[.int .i64 (k : Int), .agg (Dc.cells ⟨if k = 3 then 3 else 2, pa, p, m, true⟩)] w (PutRet w (leafW k pa p m)) := by
  have hpa4 : pa % 4096 = 0 := by
    unfold lvN at hpa
    split at hpa
    · omega
    · split at hpa <;> omega
  have hjt := join_leaf k pa p m hk hp hm hpa4 hl
  have hmay := may_leaf pa k p m hk hpa hl hp hm
  obtain ⟨kd, hkd⟩ : ∃ kd, kd = if k = 3 then 3 else 2 := ⟨_, rfl⟩
  rw [← hkd] at hmay ⊢
  have h8 : ((kd : Int) == 0) = false := by rw [hkd]; split <;> rfl
  have h9 : ((kd : Int) == 1) = false := by rw [hkd]; split <;> rfl
  have hb0 := Blk.new w 108 (Dc.cells ⟨kd, pa, p, m, true⟩)
  have hb01 := hb0.alloc (.cells (lvCs ⟨kd, pa, p, m, true⟩ k) 222)
  have B0 : Below w.heap.size w ((w.alloc (.cells (Dc.cells ⟨kd, pa, p, m, true⟩) 108)).alloc (.cells (lvCs ⟨kd, pa, p, m, true⟩ k) 222)) := ((Below.refl _ w).alloc (Nat.le_refl _) _).alloc (by simp) _
  obtain ⟨X, hX⟩ : ∃ X, X = leafW k pa p m := ⟨_, rfl⟩
  rw [← hX] at hjt ⊢
  obtain ⟨q3, hq3⟩ : ∃ q, ((k : Int) == 3) = q := ⟨_, rfl⟩
  have hk3 : (k == 3) = q3 := by rw [← hq3]; rcases hk with rfl | rfl | rfl <;> rfl
  have hr : ∃ r1 r2 r4 : Int, bits .and .i64 (p : Int) 1 = r1 ∧ bits .and .i64 (p : Int) 2 = r2 ∧ bits .and .i64 (p : Int) 4 = r4 ∧ (r1 != 0) = pr p ∧ (r2 != 0) = pw p ∧ (r4 == 0) = !px p := by
    refine ⟨_, _, _, rfl, rfl, rfl, ?_⟩
    rcases p8 hp with rfl | rfl | rfl | rfl | rfl | rfl | rfl | rfl <;> decide +kernel
  obtain ⟨r1, r2, r4, hr1, hr2, hr4, hqr, hqw, hqx⟩ := hr
  rw [hk3] at hjt
  obtain ⟨qr, eqr⟩ : ∃ q, pr p = q := ⟨_, rfl⟩
  obtain ⟨qw, eqw⟩ : ∃ q, pw p = q := ⟨_, rfl⟩
  obtain ⟨qx, eqx⟩ : ∃ q, px p = q := ⟨_, rfl⟩
  rw [eqr] at hqr hjt
  rw [eqw] at hqw hjt
  rw [eqx] at hqx hjt
  clear hkd hk hpa hp hX eqr eqw eqx hk3
  simp only [lvCs, Dc.cells] at hmay hb0 hb01 B0 ⊢
  rcases (show m = 0 ∨ m = 1 by omega) with rfl | rfl
  · go_enter Tryz.func95, Tryz.ntmps95
    go_wp2_with fail
    refine (hmay _).mono ?_
    rintro e w1 ⟨rfl, hB1⟩
    have hb := hb01.below hB1 hb01.lt
    have B1 := B0.trans (hB1.mono B0.size)
    have c3 : w1.cell? ⟨w.heap.size, 3, none⟩ = some (.int .i64 0) := (hb.cell 3).trans rfl
    have c0 : w1.cell? ⟨w.heap.size, 0, none⟩ = some (.int .i64 (kd : Int)) := (hb.cell 0).trans rfl
    clear hmay hb0 hb01 B0 hB1
    have hfl : ∀ f ∈ [(0, pa), (0, 1), (1, oneN q3), (2, 15), (8, 3), (6, oneN qr), (7, oneN qw), (10, oneN true), (54, oneN (!qx))], f.1 < 64 ∧ f.2 < 18446744073709551616 := by
      simp only [List.mem_cons, List.not_mem_nil, or_false]
      rintro f (rfl | rfl | rfl | rfl | rfl | rfl | rfl | rfl | rfl) <;> refine ⟨by simp only; omega, ?_⟩ <;> first | omega | (unfold oneN; split <;> omega)
    have hjt' : joinN [(0, pa), (0, 1), (1, oneN q3), (2, 15), (8, 3), (6, oneN qr), (7, oneN qw), (10, oneN true), (54, oneN (!qx))] = X := hjt
    clear hjt
    go_wp2_with fail
    refine Flow.wp_region_flow (w.heap.size) [] [(1, fun W => Blk W w.heap.size 108 (Dc.cells ⟨kd, pa, p, 0, true⟩)), (13, fun W => Blk W w.heap.size 108 (Dc.cells ⟨kd, pa, p, 0, true⟩)), (19, fun W => Blk W w.heap.size 108 (Dc.cells ⟨kd, pa, p, 0, true⟩)), (25, fun W => Blk W w.heap.size 108 (Dc.cells ⟨kd, pa, p, 0, true⟩)), (29, fun W => Blk W w.heap.size 108 (Dc.cells ⟨kd, pa, p, 0, true⟩))] (by kernel_rfl) (by kernel_rfl) B1.size (fun _ h => by cases h) (Flow.facts_cons (hb) (Flow.kept_blk id) Flow.fz_nil (Flow.facts_cons (hb) (Flow.kept_blk id) Flow.fz_nil (Flow.facts_cons (hb) (Flow.kept_blk id) Flow.fz_nil (Flow.facts_cons (hb) (Flow.kept_blk id) Flow.fz_nil (Flow.facts_cons (hb) (Flow.kept_blk id) Flow.fz_nil Flow.facts_nil))))) ?_
    refine Flow.pass_val (.pointer (some ⟨w.heap.size, 1, none⟩)) (Flow.met_none rfl) (fun a W hH => ?_) ?_
    · have e0 := Flow.see_old 3 hH.sees (by kernel_rfl) (by kernel_rfl) rfl
      go_simp; first | done | rfl
    refine Flow.pass_val (.int .u64 (pa : Int)) (Flow.met_none rfl) (fun a W hH => ?_) ?_
    · have e0 := Flow.see_new 31 0 hH.sees (by kernel_rfl) (by kernel_rfl) rfl rfl
      have fa0 : (fun W => Blk W w.heap.size 108 (Dc.cells ⟨kd, pa, p, 0, true⟩)) W := hH.fact _ (List.mem_of_getElem? (i := 0) rfl) rfl
      have cc : World.cell? W ⟨w.heap.size, 1, none⟩ = some (.int .u64 (pa : Int)) := (fa0.cell 1).trans rfl; go_simp; first | done | rfl
    refine Flow.pass_val (.agg #[.int .i64 ((0 : Nat) : Int), .int .u64 ((pa : Nat) : Int)]) (Flow.met_none rfl) (fun a W hH => ?_) ?_
    · have e0 := Flow.see_new 32 1 hH.sees (by kernel_rfl) (by kernel_rfl) rfl rfl
      exact Flow.reg_build _ rfl (by simp [Act.eval, e0]; try rfl) (run_fld W 0 (pa))
    refine Flow.pass_val (.agg #[.int .i64 ((0 : Nat) : Int), .int .u64 ((1 : Nat) : Int)]) (Flow.met_none rfl) (fun a W hH => ?_) ?_
    · exact Flow.reg_build _ rfl (by simp [Act.eval]; try rfl) (run_fld W 0 (1))
    refine Flow.pass_old 0 (Flow.met_none rfl) (.inl rfl) (by kernel_rfl) (by kernel_rfl) rfl ?_
    refine Flow.pass_val (.bool (q3)) (Flow.met_none rfl) (fun a W hH => ?_) ?_
    · have e0 := Flow.see_new 35 4 hH.sees (by kernel_rfl) (by kernel_rfl) rfl rfl
      go_simp; first | done | rfl | rw [hq3] | simp [hq3] | (simp; rw [hq3])
    refine Flow.pass_step (Reg.eqs (.int .u64 (oneN (q3) : Int))) (fun _ _ => Flow.kept_eqs _ _) (Flow.met_none rfl) (fun a W hH => ?_) ?_
    · have e0 := Flow.see_new 36 5 hH.sees (by kernel_rfl) (by kernel_rfl) rfl rfl
      refine Reg.wp_call rfl Tryz.func114 rfl (by kernel_rfl) (by simp [Act.eval, e0]) (one_any (q3) W) ?_
      rintro e w' ⟨rfl, rfl⟩
      exact ⟨_, rfl, _, rfl, Below.refl _ _, rfl⟩
    refine Flow.pass_val (.agg #[.int .i64 ((1 : Nat) : Int), .int .u64 ((oneN q3 : Nat) : Int)]) (Flow.met_none rfl) (fun a W hH => ?_) ?_
    · have e0 := Flow.see_new 37 6 hH.sees (by kernel_rfl) (by kernel_rfl) rfl rfl
      exact Flow.reg_build _ rfl (by simp [Act.eval, e0]; try rfl) (run_fld W 1 (oneN q3))
    refine Flow.pass_old (X := .int .u64 15) 7 (Flow.met_none rfl) (.inl rfl) (by kernel_rfl) (by kernel_rfl) rfl ?_
    refine Flow.pass_val (.agg #[.int .i64 ((2 : Nat) : Int), .int .u64 ((15 : Nat) : Int)]) (Flow.met_none rfl) (fun a W hH => ?_) ?_
    · have e0 := Flow.see_new 39 8 hH.sees (by kernel_rfl) (by kernel_rfl) rfl rfl
      exact Flow.reg_build _ rfl (by simp [Act.eval, e0]; try rfl) (run_fld W 2 (15))
    refine Flow.pass_old (X := .int .u64 3) 8 (Flow.met_none rfl) (.inl rfl) (by kernel_rfl) (by kernel_rfl) rfl ?_
    refine Flow.pass_val (.agg #[.int .i64 ((8 : Nat) : Int), .int .u64 ((3 : Nat) : Int)]) (Flow.met_none rfl) (fun a W hH => ?_) ?_
    · have e0 := Flow.see_new 41 10 hH.sees (by kernel_rfl) (by kernel_rfl) rfl rfl
      exact Flow.reg_build _ rfl (by simp [Act.eval, e0]; try rfl) (run_fld W 8 (3))
    refine Flow.pass_val (.pointer (some ⟨w.heap.size, 2, none⟩)) (Flow.met_none rfl) (fun a W hH => ?_) ?_
    · have e0 := Flow.see_old 3 hH.sees (by kernel_rfl) (by kernel_rfl) rfl
      go_simp; first | done | rfl
    refine Flow.pass_val (.int .i64 (p : Int)) (Flow.met_none rfl) (fun a W hH => ?_) ?_
    · have e0 := Flow.see_new 43 12 hH.sees (by kernel_rfl) (by kernel_rfl) rfl rfl
      have fa1 : (fun W => Blk W w.heap.size 108 (Dc.cells ⟨kd, pa, p, 0, true⟩)) W := hH.fact _ (List.mem_of_getElem? (i := 1) rfl) rfl
      have cc : World.cell? W ⟨w.heap.size, 2, none⟩ = some (.int .i64 (p : Int)) := (fa1.cell 2).trans rfl; go_simp; first | done | rfl
    refine Flow.pass_val (.int .i64 (r1)) (Flow.met_none rfl) (fun a W hH => ?_) ?_
    · have e0 := Flow.see_new 44 13 hH.sees (by kernel_rfl) (by kernel_rfl) rfl rfl
      go_simp; first | done | rfl
    refine Flow.pass_val (.bool (qr)) (Flow.met_none rfl) (fun a W hH => ?_) ?_
    · have e0 := Flow.see_new 45 14 hH.sees (by kernel_rfl) (by kernel_rfl) rfl rfl
      go_simp; first | done | rfl | rw [hqr] | simp [hqr] | (simp; rw [hqr])
    refine Flow.pass_step (Reg.eqs (.int .u64 (oneN (qr) : Int))) (fun _ _ => Flow.kept_eqs _ _) (Flow.met_none rfl) (fun a W hH => ?_) ?_
    · have e0 := Flow.see_new 46 15 hH.sees (by kernel_rfl) (by kernel_rfl) rfl rfl
      refine Reg.wp_call rfl Tryz.func114 rfl (by kernel_rfl) (by simp [Act.eval, e0]) (one_any (qr) W) ?_
      rintro e w' ⟨rfl, rfl⟩
      exact ⟨_, rfl, _, rfl, Below.refl _ _, rfl⟩
    refine Flow.pass_val (.agg #[.int .i64 ((6 : Nat) : Int), .int .u64 ((oneN qr : Nat) : Int)]) (Flow.met_none rfl) (fun a W hH => ?_) ?_
    · have e0 := Flow.see_new 47 16 hH.sees (by kernel_rfl) (by kernel_rfl) rfl rfl
      exact Flow.reg_build _ rfl (by simp [Act.eval, e0]; try rfl) (run_fld W 6 (oneN qr))
    refine Flow.pass_val (.pointer (some ⟨w.heap.size, 2, none⟩)) (Flow.met_none rfl) (fun a W hH => ?_) ?_
    · have e0 := Flow.see_old 3 hH.sees (by kernel_rfl) (by kernel_rfl) rfl
      go_simp; first | done | rfl
    refine Flow.pass_val (.int .i64 (p : Int)) (Flow.met_none rfl) (fun a W hH => ?_) ?_
    · have e0 := Flow.see_new 49 18 hH.sees (by kernel_rfl) (by kernel_rfl) rfl rfl
      have fa2 : (fun W => Blk W w.heap.size 108 (Dc.cells ⟨kd, pa, p, 0, true⟩)) W := hH.fact _ (List.mem_of_getElem? (i := 2) rfl) rfl
      have cc : World.cell? W ⟨w.heap.size, 2, none⟩ = some (.int .i64 (p : Int)) := (fa2.cell 2).trans rfl; go_simp; first | done | rfl
    refine Flow.pass_val (.int .i64 (r2)) (Flow.met_none rfl) (fun a W hH => ?_) ?_
    · have e0 := Flow.see_new 50 19 hH.sees (by kernel_rfl) (by kernel_rfl) rfl rfl
      go_simp; first | done | rfl
    refine Flow.pass_val (.bool (qw)) (Flow.met_none rfl) (fun a W hH => ?_) ?_
    · have e0 := Flow.see_new 51 20 hH.sees (by kernel_rfl) (by kernel_rfl) rfl rfl
      go_simp; first | done | rfl | rw [hqw] | simp [hqw] | (simp; rw [hqw])
    refine Flow.pass_step (Reg.eqs (.int .u64 (oneN (qw) : Int))) (fun _ _ => Flow.kept_eqs _ _) (Flow.met_none rfl) (fun a W hH => ?_) ?_
    · have e0 := Flow.see_new 52 21 hH.sees (by kernel_rfl) (by kernel_rfl) rfl rfl
      refine Reg.wp_call rfl Tryz.func114 rfl (by kernel_rfl) (by simp [Act.eval, e0]) (one_any (qw) W) ?_
      rintro e w' ⟨rfl, rfl⟩
      exact ⟨_, rfl, _, rfl, Below.refl _ _, rfl⟩
    refine Flow.pass_val (.agg #[.int .i64 ((7 : Nat) : Int), .int .u64 ((oneN qw : Nat) : Int)]) (Flow.met_none rfl) (fun a W hH => ?_) ?_
    · have e0 := Flow.see_new 53 22 hH.sees (by kernel_rfl) (by kernel_rfl) rfl rfl
      exact Flow.reg_build _ rfl (by simp [Act.eval, e0]; try rfl) (run_fld W 7 (oneN qw))
    refine Flow.pass_val (.pointer (some ⟨w.heap.size, 4, none⟩)) (Flow.met_none rfl) (fun a W hH => ?_) ?_
    · have e0 := Flow.see_old 3 hH.sees (by kernel_rfl) (by kernel_rfl) rfl
      go_simp; first | done | rfl
    refine Flow.pass_val (.bool true) (Flow.met_none rfl) (fun a W hH => ?_) ?_
    · have e0 := Flow.see_new 55 24 hH.sees (by kernel_rfl) (by kernel_rfl) rfl rfl
      have fa3 : (fun W => Blk W w.heap.size 108 (Dc.cells ⟨kd, pa, p, 0, true⟩)) W := hH.fact _ (List.mem_of_getElem? (i := 3) rfl) rfl
      have cc : World.cell? W ⟨w.heap.size, 4, none⟩ = some (.bool true) := (fa3.cell 4).trans rfl; go_simp; first | done | rfl
    refine Flow.pass_step (Reg.eqs (.int .u64 (oneN (true) : Int))) (fun _ _ => Flow.kept_eqs _ _) (Flow.met_none rfl) (fun a W hH => ?_) ?_
    · have e0 := Flow.see_new 56 25 hH.sees (by kernel_rfl) (by kernel_rfl) rfl rfl
      refine Reg.wp_call rfl Tryz.func114 rfl (by kernel_rfl) (by simp [Act.eval, e0]) (one_any (true) W) ?_
      rintro e w' ⟨rfl, rfl⟩
      exact ⟨_, rfl, _, rfl, Below.refl _ _, rfl⟩
    refine Flow.pass_val (.agg #[.int .i64 ((10 : Nat) : Int), .int .u64 ((oneN true : Nat) : Int)]) (Flow.met_none rfl) (fun a W hH => ?_) ?_
    · have e0 := Flow.see_new 57 26 hH.sees (by kernel_rfl) (by kernel_rfl) rfl rfl
      exact Flow.reg_build _ rfl (by simp [Act.eval, e0]; try rfl) (run_fld W 10 (oneN true))
    refine Flow.pass_val (.pointer (some ⟨w.heap.size, 2, none⟩)) (Flow.met_none rfl) (fun a W hH => ?_) ?_
    · have e0 := Flow.see_old 3 hH.sees (by kernel_rfl) (by kernel_rfl) rfl
      go_simp; first | done | rfl
    refine Flow.pass_val (.int .i64 (p : Int)) (Flow.met_none rfl) (fun a W hH => ?_) ?_
    · have e0 := Flow.see_new 59 28 hH.sees (by kernel_rfl) (by kernel_rfl) rfl rfl
      have fa4 : (fun W => Blk W w.heap.size 108 (Dc.cells ⟨kd, pa, p, 0, true⟩)) W := hH.fact _ (List.mem_of_getElem? (i := 4) rfl) rfl
      have cc : World.cell? W ⟨w.heap.size, 2, none⟩ = some (.int .i64 (p : Int)) := (fa4.cell 2).trans rfl; go_simp; first | done | rfl
    refine Flow.pass_val (.int .i64 (r4)) (Flow.met_none rfl) (fun a W hH => ?_) ?_
    · have e0 := Flow.see_new 60 29 hH.sees (by kernel_rfl) (by kernel_rfl) rfl rfl
      go_simp; first | done | rfl
    refine Flow.pass_val (.bool (!qx)) (Flow.met_none rfl) (fun a W hH => ?_) ?_
    · have e0 := Flow.see_new 61 30 hH.sees (by kernel_rfl) (by kernel_rfl) rfl rfl
      go_simp; first | done | rfl | rw [hqx] | simp [hqx] | (simp; rw [hqx])
    refine Flow.pass_step (Reg.eqs (.int .u64 (oneN (!qx) : Int))) (fun _ _ => Flow.kept_eqs _ _) (Flow.met_none rfl) (fun a W hH => ?_) ?_
    · have e0 := Flow.see_new 62 31 hH.sees (by kernel_rfl) (by kernel_rfl) rfl rfl
      refine Reg.wp_call rfl Tryz.func114 rfl (by kernel_rfl) (by simp [Act.eval, e0]) (one_any (!qx) W) ?_
      rintro e w' ⟨rfl, rfl⟩
      exact ⟨_, rfl, _, rfl, Below.refl _ _, rfl⟩
    refine Flow.pass_val (.agg #[.int .i64 ((54 : Nat) : Int), .int .u64 ((oneN (!qx) : Nat) : Int)]) (Flow.met_none rfl) (fun a W hH => ?_) ?_
    · have e0 := Flow.see_new 63 32 hH.sees (by kernel_rfl) (by kernel_rfl) rfl rfl
      exact Flow.reg_build _ rfl (by simp [Act.eval, e0]; try rfl) (run_fld W 54 (oneN (!qx)))
    refine Flow.pass_gen (fun v W => ∃ b, v = .slice (some ⟨b, 0, none⟩) 9 9 ∧ Blk W b 225 (fcells [(0, pa), (0, 1), (1, oneN q3), (2, 15), (8, 3), (6, oneN qr), (7, oneN qw), (10, oneN true), (54, oneN (!qx))]).toArray) (Flow.kept_of (fun _ _ _ c ⟨b, h1, h2⟩ => ⟨b, h1, h2.chg c id⟩) Flow.kz_nil) (Flow.met_none rfl) (fun a W hH => ?_) ?_
    · have e0 := Flow.see_new 33 2 hH.sees (by kernel_rfl) (by kernel_rfl) rfl rfl
      have e1 := Flow.see_new 34 3 hH.sees (by kernel_rfl) (by kernel_rfl) rfl rfl
      have e2 := Flow.see_new 38 7 hH.sees (by kernel_rfl) (by kernel_rfl) rfl rfl
      have e3 := Flow.see_new 40 9 hH.sees (by kernel_rfl) (by kernel_rfl) rfl rfl
      have e4 := Flow.see_new 42 11 hH.sees (by kernel_rfl) (by kernel_rfl) rfl rfl
      have e5 := Flow.see_new 48 17 hH.sees (by kernel_rfl) (by kernel_rfl) rfl rfl
      have e6 := Flow.see_new 54 23 hH.sees (by kernel_rfl) (by kernel_rfl) rfl rfl
      have e7 := Flow.see_new 58 27 hH.sees (by kernel_rfl) (by kernel_rfl) rfl rfl
      have e8 := Flow.see_new 64 33 hH.sees (by kernel_rfl) (by kernel_rfl) rfl rfl
      refine Flow.wp_run (Flow.reg_buildSlice _ rfl (by simp [Act.eval, e0, e1, e2, e3, e4, e5, e6, e7, e8, fldV]) (run_flds9 W (0, pa) (0, 1) (1, oneN q3) (2, 15) (8, 3) (6, oneN qr) (7, oneN qw) (10, oneN true) (54, oneN (!qx)))) ?_
      exact ⟨_, rfl, Chg.of_ext ((Ext.refl W).alloc _), W.heap.size, rfl, Blk.new _ _ _⟩
    refine Flow.pass_step (Reg.eqs (.int .u64 (joinN [(0, pa), (0, 1), (1, oneN q3), (2, 15), (8, 3), (6, oneN qr), (7, oneN qw), (10, oneN true), (54, oneN (!qx))] : Int))) (fun _ _ => Flow.kept_eqs _ _) (Flow.met_none rfl) (fun a W hH => ?_) ?_
    · obtain ⟨b0, e0, q0⟩ := Flow.see_up 65 34 hH.sees (by kernel_rfl) (by kernel_rfl) rfl rfl
      refine Reg.wp_call rfl Tryz.func113 rfl (by kernel_rfl) (by simp [Act.eval, e0]) (joined_any b0 0 9 9 [(0, pa), (0, 1), (1, oneN q3), (2, 15), (8, 3), (6, oneN qr), (7, oneN qw), (10, oneN true), (54, oneN (!qx))] hfl (by omega) W.heap.size W (q0.rd rfl) (Nat.le_refl _)) ?_
      rintro e w' ⟨rfl, hB⟩
      exact ⟨_, rfl, _, rfl, hB, rfl⟩
    refine Flow.pass_copy 66 35 (Flow.met_none rfl) (.inr rfl) (by kernel_rfl) (by kernel_rfl) rfl rfl (fun _ _ => Flow.kept_eqs _ _) ?_
    apply Flow.pass_val (hm := (Flow.met_none rfl))
    · intro a W hH
      go_simp; first | done | rfl
    refine Flow.pass_end [none, none, none, none, some 4, some 5, none, none, none, none, none, none, none, none, none, none, none, none, none, none, none, none, none, none, none, none, none, none, none, none, none, some 31, some 32, some 33, some 34, some 35, some 36, some 37, some 38, some 39, some 40, some 41, some 42, some 43, some 44, some 45, some 46, some 47, some 48, some 49, some 50, some 51, some 52, some 53, some 54, some 55, some 56, some 57, some 58, some 59, some 60, some 61, some 62, some 63, some 64, some 65, some 66] (by kernel_rfl) ?_
    intro f gg w9 hB hfa hT hfg
    have h4 : f 4 = _ := (hfg 4 36 (by kernel_rfl)).trans (hT 36 _ (by kernel_rfl) rfl)
    have h5 : f 5 = _ := (hfg 5 37 (by kernel_rfl)).trans (hT 37 _ (by kernel_rfl) rfl)
    simp only [Reg.sel, h4, h5]
    go_wp2
    go_ret2
    exact ⟨rfl, B1.drew.trans hB⟩
  · go_enter Tryz.func95, Tryz.ntmps95
    go_wp2_with fail
    refine (hmay _).mono ?_
    rintro e w1 ⟨rfl, hB1⟩
    have hb := hb01.below hB1 hb01.lt
    have B1 := B0.trans (hB1.mono B0.size)
    have c3 : w1.cell? ⟨w.heap.size, 3, none⟩ = some (.int .i64 1) := (hb.cell 3).trans rfl
    have c0 : w1.cell? ⟨w.heap.size, 0, none⟩ = some (.int .i64 (kd : Int)) := (hb.cell 0).trans rfl
    clear hmay hb0 hb01 B0 hB1
    have hfl : ∀ f ∈ [(0, pa), (0, 1), (1, oneN q3), (2, 1), (8, 2), (6, oneN qr), (7, oneN qw), (10, oneN true), (54, oneN (!qx))], f.1 < 64 ∧ f.2 < 18446744073709551616 := by
      simp only [List.mem_cons, List.not_mem_nil, or_false]
      rintro f (rfl | rfl | rfl | rfl | rfl | rfl | rfl | rfl | rfl) <;> refine ⟨by simp only; omega, ?_⟩ <;> first | omega | (unfold oneN; split <;> omega)
    have hjt' : joinN [(0, pa), (0, 1), (1, oneN q3), (2, 1), (8, 2), (6, oneN qr), (7, oneN qw), (10, oneN true), (54, oneN (!qx))] = X := hjt
    clear hjt
    go_wp2_with fail
    refine Flow.wp_region_flow (w.heap.size) [] [(1, fun W => Blk W w.heap.size 108 (Dc.cells ⟨kd, pa, p, 1, true⟩)), (13, fun W => Blk W w.heap.size 108 (Dc.cells ⟨kd, pa, p, 1, true⟩)), (19, fun W => Blk W w.heap.size 108 (Dc.cells ⟨kd, pa, p, 1, true⟩)), (25, fun W => Blk W w.heap.size 108 (Dc.cells ⟨kd, pa, p, 1, true⟩)), (29, fun W => Blk W w.heap.size 108 (Dc.cells ⟨kd, pa, p, 1, true⟩))] (by kernel_rfl) (by kernel_rfl) B1.size (fun _ h => by cases h) (Flow.facts_cons (hb) (Flow.kept_blk id) Flow.fz_nil (Flow.facts_cons (hb) (Flow.kept_blk id) Flow.fz_nil (Flow.facts_cons (hb) (Flow.kept_blk id) Flow.fz_nil (Flow.facts_cons (hb) (Flow.kept_blk id) Flow.fz_nil (Flow.facts_cons (hb) (Flow.kept_blk id) Flow.fz_nil Flow.facts_nil))))) ?_
    refine Flow.pass_val (.pointer (some ⟨w.heap.size, 1, none⟩)) (Flow.met_none rfl) (fun a W hH => ?_) ?_
    · have e0 := Flow.see_old 3 hH.sees (by kernel_rfl) (by kernel_rfl) rfl
      go_simp; first | done | rfl
    refine Flow.pass_val (.int .u64 (pa : Int)) (Flow.met_none rfl) (fun a W hH => ?_) ?_
    · have e0 := Flow.see_new 31 0 hH.sees (by kernel_rfl) (by kernel_rfl) rfl rfl
      have fa0 : (fun W => Blk W w.heap.size 108 (Dc.cells ⟨kd, pa, p, 1, true⟩)) W := hH.fact _ (List.mem_of_getElem? (i := 0) rfl) rfl
      have cc : World.cell? W ⟨w.heap.size, 1, none⟩ = some (.int .u64 (pa : Int)) := (fa0.cell 1).trans rfl; go_simp; first | done | rfl
    refine Flow.pass_val (.agg #[.int .i64 ((0 : Nat) : Int), .int .u64 ((pa : Nat) : Int)]) (Flow.met_none rfl) (fun a W hH => ?_) ?_
    · have e0 := Flow.see_new 32 1 hH.sees (by kernel_rfl) (by kernel_rfl) rfl rfl
      exact Flow.reg_build _ rfl (by simp [Act.eval, e0]; try rfl) (run_fld W 0 (pa))
    refine Flow.pass_val (.agg #[.int .i64 ((0 : Nat) : Int), .int .u64 ((1 : Nat) : Int)]) (Flow.met_none rfl) (fun a W hH => ?_) ?_
    · exact Flow.reg_build _ rfl (by simp [Act.eval]; try rfl) (run_fld W 0 (1))
    refine Flow.pass_old 0 (Flow.met_none rfl) (.inl rfl) (by kernel_rfl) (by kernel_rfl) rfl ?_
    refine Flow.pass_val (.bool (q3)) (Flow.met_none rfl) (fun a W hH => ?_) ?_
    · have e0 := Flow.see_new 35 4 hH.sees (by kernel_rfl) (by kernel_rfl) rfl rfl
      go_simp; first | done | rfl | rw [hq3] | simp [hq3] | (simp; rw [hq3])
    refine Flow.pass_step (Reg.eqs (.int .u64 (oneN (q3) : Int))) (fun _ _ => Flow.kept_eqs _ _) (Flow.met_none rfl) (fun a W hH => ?_) ?_
    · have e0 := Flow.see_new 36 5 hH.sees (by kernel_rfl) (by kernel_rfl) rfl rfl
      refine Reg.wp_call rfl Tryz.func114 rfl (by kernel_rfl) (by simp [Act.eval, e0]) (one_any (q3) W) ?_
      rintro e w' ⟨rfl, rfl⟩
      exact ⟨_, rfl, _, rfl, Below.refl _ _, rfl⟩
    refine Flow.pass_val (.agg #[.int .i64 ((1 : Nat) : Int), .int .u64 ((oneN q3 : Nat) : Int)]) (Flow.met_none rfl) (fun a W hH => ?_) ?_
    · have e0 := Flow.see_new 37 6 hH.sees (by kernel_rfl) (by kernel_rfl) rfl rfl
      exact Flow.reg_build _ rfl (by simp [Act.eval, e0]; try rfl) (run_fld W 1 (oneN q3))
    refine Flow.pass_old (X := .int .u64 1) 7 (Flow.met_none rfl) (.inl rfl) (by kernel_rfl) (by kernel_rfl) rfl ?_
    refine Flow.pass_val (.agg #[.int .i64 ((2 : Nat) : Int), .int .u64 ((1 : Nat) : Int)]) (Flow.met_none rfl) (fun a W hH => ?_) ?_
    · have e0 := Flow.see_new 39 8 hH.sees (by kernel_rfl) (by kernel_rfl) rfl rfl
      exact Flow.reg_build _ rfl (by simp [Act.eval, e0]; try rfl) (run_fld W 2 (1))
    refine Flow.pass_old (X := .int .u64 2) 8 (Flow.met_none rfl) (.inl rfl) (by kernel_rfl) (by kernel_rfl) rfl ?_
    refine Flow.pass_val (.agg #[.int .i64 ((8 : Nat) : Int), .int .u64 ((2 : Nat) : Int)]) (Flow.met_none rfl) (fun a W hH => ?_) ?_
    · have e0 := Flow.see_new 41 10 hH.sees (by kernel_rfl) (by kernel_rfl) rfl rfl
      exact Flow.reg_build _ rfl (by simp [Act.eval, e0]; try rfl) (run_fld W 8 (2))
    refine Flow.pass_val (.pointer (some ⟨w.heap.size, 2, none⟩)) (Flow.met_none rfl) (fun a W hH => ?_) ?_
    · have e0 := Flow.see_old 3 hH.sees (by kernel_rfl) (by kernel_rfl) rfl
      go_simp; first | done | rfl
    refine Flow.pass_val (.int .i64 (p : Int)) (Flow.met_none rfl) (fun a W hH => ?_) ?_
    · have e0 := Flow.see_new 43 12 hH.sees (by kernel_rfl) (by kernel_rfl) rfl rfl
      have fa1 : (fun W => Blk W w.heap.size 108 (Dc.cells ⟨kd, pa, p, 1, true⟩)) W := hH.fact _ (List.mem_of_getElem? (i := 1) rfl) rfl
      have cc : World.cell? W ⟨w.heap.size, 2, none⟩ = some (.int .i64 (p : Int)) := (fa1.cell 2).trans rfl; go_simp; first | done | rfl
    refine Flow.pass_val (.int .i64 (r1)) (Flow.met_none rfl) (fun a W hH => ?_) ?_
    · have e0 := Flow.see_new 44 13 hH.sees (by kernel_rfl) (by kernel_rfl) rfl rfl
      go_simp; first | done | rfl
    refine Flow.pass_val (.bool (qr)) (Flow.met_none rfl) (fun a W hH => ?_) ?_
    · have e0 := Flow.see_new 45 14 hH.sees (by kernel_rfl) (by kernel_rfl) rfl rfl
      go_simp; first | done | rfl | rw [hqr] | simp [hqr] | (simp; rw [hqr])
    refine Flow.pass_step (Reg.eqs (.int .u64 (oneN (qr) : Int))) (fun _ _ => Flow.kept_eqs _ _) (Flow.met_none rfl) (fun a W hH => ?_) ?_
    · have e0 := Flow.see_new 46 15 hH.sees (by kernel_rfl) (by kernel_rfl) rfl rfl
      refine Reg.wp_call rfl Tryz.func114 rfl (by kernel_rfl) (by simp [Act.eval, e0]) (one_any (qr) W) ?_
      rintro e w' ⟨rfl, rfl⟩
      exact ⟨_, rfl, _, rfl, Below.refl _ _, rfl⟩
    refine Flow.pass_val (.agg #[.int .i64 ((6 : Nat) : Int), .int .u64 ((oneN qr : Nat) : Int)]) (Flow.met_none rfl) (fun a W hH => ?_) ?_
    · have e0 := Flow.see_new 47 16 hH.sees (by kernel_rfl) (by kernel_rfl) rfl rfl
      exact Flow.reg_build _ rfl (by simp [Act.eval, e0]; try rfl) (run_fld W 6 (oneN qr))
    refine Flow.pass_val (.pointer (some ⟨w.heap.size, 2, none⟩)) (Flow.met_none rfl) (fun a W hH => ?_) ?_
    · have e0 := Flow.see_old 3 hH.sees (by kernel_rfl) (by kernel_rfl) rfl
      go_simp; first | done | rfl
    refine Flow.pass_val (.int .i64 (p : Int)) (Flow.met_none rfl) (fun a W hH => ?_) ?_
    · have e0 := Flow.see_new 49 18 hH.sees (by kernel_rfl) (by kernel_rfl) rfl rfl
      have fa2 : (fun W => Blk W w.heap.size 108 (Dc.cells ⟨kd, pa, p, 1, true⟩)) W := hH.fact _ (List.mem_of_getElem? (i := 2) rfl) rfl
      have cc : World.cell? W ⟨w.heap.size, 2, none⟩ = some (.int .i64 (p : Int)) := (fa2.cell 2).trans rfl; go_simp; first | done | rfl
    refine Flow.pass_val (.int .i64 (r2)) (Flow.met_none rfl) (fun a W hH => ?_) ?_
    · have e0 := Flow.see_new 50 19 hH.sees (by kernel_rfl) (by kernel_rfl) rfl rfl
      go_simp; first | done | rfl
    refine Flow.pass_val (.bool (qw)) (Flow.met_none rfl) (fun a W hH => ?_) ?_
    · have e0 := Flow.see_new 51 20 hH.sees (by kernel_rfl) (by kernel_rfl) rfl rfl
      go_simp; first | done | rfl | rw [hqw] | simp [hqw] | (simp; rw [hqw])
    refine Flow.pass_step (Reg.eqs (.int .u64 (oneN (qw) : Int))) (fun _ _ => Flow.kept_eqs _ _) (Flow.met_none rfl) (fun a W hH => ?_) ?_
    · have e0 := Flow.see_new 52 21 hH.sees (by kernel_rfl) (by kernel_rfl) rfl rfl
      refine Reg.wp_call rfl Tryz.func114 rfl (by kernel_rfl) (by simp [Act.eval, e0]) (one_any (qw) W) ?_
      rintro e w' ⟨rfl, rfl⟩
      exact ⟨_, rfl, _, rfl, Below.refl _ _, rfl⟩
    refine Flow.pass_val (.agg #[.int .i64 ((7 : Nat) : Int), .int .u64 ((oneN qw : Nat) : Int)]) (Flow.met_none rfl) (fun a W hH => ?_) ?_
    · have e0 := Flow.see_new 53 22 hH.sees (by kernel_rfl) (by kernel_rfl) rfl rfl
      exact Flow.reg_build _ rfl (by simp [Act.eval, e0]; try rfl) (run_fld W 7 (oneN qw))
    refine Flow.pass_val (.pointer (some ⟨w.heap.size, 4, none⟩)) (Flow.met_none rfl) (fun a W hH => ?_) ?_
    · have e0 := Flow.see_old 3 hH.sees (by kernel_rfl) (by kernel_rfl) rfl
      go_simp; first | done | rfl
    refine Flow.pass_val (.bool true) (Flow.met_none rfl) (fun a W hH => ?_) ?_
    · have e0 := Flow.see_new 55 24 hH.sees (by kernel_rfl) (by kernel_rfl) rfl rfl
      have fa3 : (fun W => Blk W w.heap.size 108 (Dc.cells ⟨kd, pa, p, 1, true⟩)) W := hH.fact _ (List.mem_of_getElem? (i := 3) rfl) rfl
      have cc : World.cell? W ⟨w.heap.size, 4, none⟩ = some (.bool true) := (fa3.cell 4).trans rfl; go_simp; first | done | rfl
    refine Flow.pass_step (Reg.eqs (.int .u64 (oneN (true) : Int))) (fun _ _ => Flow.kept_eqs _ _) (Flow.met_none rfl) (fun a W hH => ?_) ?_
    · have e0 := Flow.see_new 56 25 hH.sees (by kernel_rfl) (by kernel_rfl) rfl rfl
      refine Reg.wp_call rfl Tryz.func114 rfl (by kernel_rfl) (by simp [Act.eval, e0]) (one_any (true) W) ?_
      rintro e w' ⟨rfl, rfl⟩
      exact ⟨_, rfl, _, rfl, Below.refl _ _, rfl⟩
    refine Flow.pass_val (.agg #[.int .i64 ((10 : Nat) : Int), .int .u64 ((oneN true : Nat) : Int)]) (Flow.met_none rfl) (fun a W hH => ?_) ?_
    · have e0 := Flow.see_new 57 26 hH.sees (by kernel_rfl) (by kernel_rfl) rfl rfl
      exact Flow.reg_build _ rfl (by simp [Act.eval, e0]; try rfl) (run_fld W 10 (oneN true))
    refine Flow.pass_val (.pointer (some ⟨w.heap.size, 2, none⟩)) (Flow.met_none rfl) (fun a W hH => ?_) ?_
    · have e0 := Flow.see_old 3 hH.sees (by kernel_rfl) (by kernel_rfl) rfl
      go_simp; first | done | rfl
    refine Flow.pass_val (.int .i64 (p : Int)) (Flow.met_none rfl) (fun a W hH => ?_) ?_
    · have e0 := Flow.see_new 59 28 hH.sees (by kernel_rfl) (by kernel_rfl) rfl rfl
      have fa4 : (fun W => Blk W w.heap.size 108 (Dc.cells ⟨kd, pa, p, 1, true⟩)) W := hH.fact _ (List.mem_of_getElem? (i := 4) rfl) rfl
      have cc : World.cell? W ⟨w.heap.size, 2, none⟩ = some (.int .i64 (p : Int)) := (fa4.cell 2).trans rfl; go_simp; first | done | rfl
    refine Flow.pass_val (.int .i64 (r4)) (Flow.met_none rfl) (fun a W hH => ?_) ?_
    · have e0 := Flow.see_new 60 29 hH.sees (by kernel_rfl) (by kernel_rfl) rfl rfl
      go_simp; first | done | rfl
    refine Flow.pass_val (.bool (!qx)) (Flow.met_none rfl) (fun a W hH => ?_) ?_
    · have e0 := Flow.see_new 61 30 hH.sees (by kernel_rfl) (by kernel_rfl) rfl rfl
      go_simp; first | done | rfl | rw [hqx] | simp [hqx] | (simp; rw [hqx])
    refine Flow.pass_step (Reg.eqs (.int .u64 (oneN (!qx) : Int))) (fun _ _ => Flow.kept_eqs _ _) (Flow.met_none rfl) (fun a W hH => ?_) ?_
    · have e0 := Flow.see_new 62 31 hH.sees (by kernel_rfl) (by kernel_rfl) rfl rfl
      refine Reg.wp_call rfl Tryz.func114 rfl (by kernel_rfl) (by simp [Act.eval, e0]) (one_any (!qx) W) ?_
      rintro e w' ⟨rfl, rfl⟩
      exact ⟨_, rfl, _, rfl, Below.refl _ _, rfl⟩
    refine Flow.pass_val (.agg #[.int .i64 ((54 : Nat) : Int), .int .u64 ((oneN (!qx) : Nat) : Int)]) (Flow.met_none rfl) (fun a W hH => ?_) ?_
    · have e0 := Flow.see_new 63 32 hH.sees (by kernel_rfl) (by kernel_rfl) rfl rfl
      exact Flow.reg_build _ rfl (by simp [Act.eval, e0]; try rfl) (run_fld W 54 (oneN (!qx)))
    refine Flow.pass_gen (fun v W => ∃ b, v = .slice (some ⟨b, 0, none⟩) 9 9 ∧ Blk W b 225 (fcells [(0, pa), (0, 1), (1, oneN q3), (2, 1), (8, 2), (6, oneN qr), (7, oneN qw), (10, oneN true), (54, oneN (!qx))]).toArray) (Flow.kept_of (fun _ _ _ c ⟨b, h1, h2⟩ => ⟨b, h1, h2.chg c id⟩) Flow.kz_nil) (Flow.met_none rfl) (fun a W hH => ?_) ?_
    · have e0 := Flow.see_new 33 2 hH.sees (by kernel_rfl) (by kernel_rfl) rfl rfl
      have e1 := Flow.see_new 34 3 hH.sees (by kernel_rfl) (by kernel_rfl) rfl rfl
      have e2 := Flow.see_new 38 7 hH.sees (by kernel_rfl) (by kernel_rfl) rfl rfl
      have e3 := Flow.see_new 40 9 hH.sees (by kernel_rfl) (by kernel_rfl) rfl rfl
      have e4 := Flow.see_new 42 11 hH.sees (by kernel_rfl) (by kernel_rfl) rfl rfl
      have e5 := Flow.see_new 48 17 hH.sees (by kernel_rfl) (by kernel_rfl) rfl rfl
      have e6 := Flow.see_new 54 23 hH.sees (by kernel_rfl) (by kernel_rfl) rfl rfl
      have e7 := Flow.see_new 58 27 hH.sees (by kernel_rfl) (by kernel_rfl) rfl rfl
      have e8 := Flow.see_new 64 33 hH.sees (by kernel_rfl) (by kernel_rfl) rfl rfl
      refine Flow.wp_run (Flow.reg_buildSlice _ rfl (by simp [Act.eval, e0, e1, e2, e3, e4, e5, e6, e7, e8, fldV]) (run_flds9 W (0, pa) (0, 1) (1, oneN q3) (2, 1) (8, 2) (6, oneN qr) (7, oneN qw) (10, oneN true) (54, oneN (!qx)))) ?_
      exact ⟨_, rfl, Chg.of_ext ((Ext.refl W).alloc _), W.heap.size, rfl, Blk.new _ _ _⟩
    refine Flow.pass_step (Reg.eqs (.int .u64 (joinN [(0, pa), (0, 1), (1, oneN q3), (2, 1), (8, 2), (6, oneN qr), (7, oneN qw), (10, oneN true), (54, oneN (!qx))] : Int))) (fun _ _ => Flow.kept_eqs _ _) (Flow.met_none rfl) (fun a W hH => ?_) ?_
    · obtain ⟨b0, e0, q0⟩ := Flow.see_up 65 34 hH.sees (by kernel_rfl) (by kernel_rfl) rfl rfl
      refine Reg.wp_call rfl Tryz.func113 rfl (by kernel_rfl) (by simp [Act.eval, e0]) (joined_any b0 0 9 9 [(0, pa), (0, 1), (1, oneN q3), (2, 1), (8, 2), (6, oneN qr), (7, oneN qw), (10, oneN true), (54, oneN (!qx))] hfl (by omega) W.heap.size W (q0.rd rfl) (Nat.le_refl _)) ?_
      rintro e w' ⟨rfl, hB⟩
      exact ⟨_, rfl, _, rfl, hB, rfl⟩
    refine Flow.pass_copy 66 35 (Flow.met_none rfl) (.inr rfl) (by kernel_rfl) (by kernel_rfl) rfl rfl (fun _ _ => Flow.kept_eqs _ _) ?_
    apply Flow.pass_val (hm := (Flow.met_none rfl))
    · intro a W hH
      go_simp; first | done | rfl
    refine Flow.pass_end [none, none, none, none, some 4, some 5, none, none, none, none, none, none, none, none, none, none, none, none, none, none, none, none, none, none, none, none, none, none, none, none, none, some 31, some 32, some 33, some 34, some 35, some 36, some 37, some 38, some 39, some 40, some 41, some 42, some 43, some 44, some 45, some 46, some 47, some 48, some 49, some 50, some 51, some 52, some 53, some 54, some 55, some 56, some 57, some 58, some 59, some 60, some 61, some 62, some 63, some 64, some 65, some 66] (by kernel_rfl) ?_
    intro f gg w9 hB hfa hT hfg
    have h4 : f 4 = _ := (hfg 4 36 (by kernel_rfl)).trans (hT 36 _ (by kernel_rfl) rfl)
    have h5 : f 5 = _ := (hfg 5 37 (by kernel_rfl)).trans (hT 37 _ (by kernel_rfl) rfl)
    simp only [Reg.sel, h4, h5]
    go_wp2
    go_ret2
    exact ⟨rfl, B1.drew.trans hB⟩
end Go.Proofs.YtpellkblaeeopaaGreatDoor
/-
  Walk: span.Cut of the pool's span by what is handed out (nothing, or one span from the pool's beginning).
-/
namespace Go.Proofs.YtpellkblaeeopaaGreatDoor
open Go.RowKit

/-- k pages of the pool are handed out -/
def usedL (k : Nat) : List Sp := if k = 0 then [] else [⟨1073741824, k * 4096⟩]
def usedE (k : Nat) : List En := if k = 0 then [] else [(1073741824, 1073741824 + k * 4096 - 1)]
def restSp (k : Nat) : Sp := ⟨1073741824 + k * 4096, (256 - k) * 4096⟩
theorem usedL_ok {k : Nat} (hk : k ≤ 256) : ∀ s ∈ usedL k, s.ok := by
  intro s hs
  unfold usedL at hs
  split at hs
  · simp at hs
  · rw [List.mem_singleton.1 hs]; exact ⟨by simp only; omega, by simp only; omega⟩
theorem goodE_used {k : Nat} (hk : k ≤ 256) : goodE (usedL k) = usedE k := by
  unfold usedL usedE
  split
  · rfl
  · have hg : (⟨1073741824, k * 4096⟩ : Sp).good = true := Sp.good_iff.2 (by simp only; omega)
    simp [goodE, hg, endOf, Sp.last]
theorem sorted_one {L L' : List En} (h : SortedE L L') (h1 : L.length ≤ 1) : L' = L := by
  have hp := sortedE_perm h
  match L, h1 with
  | [], _ => exact List.perm_nil.1 hp
  | [x], _ => exact List.perm_singleton.1 hp
theorem mergeE_used (k : Nat) : mergeE (usedE k) = usedE k := by
  unfold usedE
  split <;> rfl
theorem usedE_len (k : Nat) : (usedE k).length ≤ 1 := by unfold usedE; split <;> simp

set_option maxRecDepth 100000 in
set_option maxHeartbeats 2000000 in
theorem cutU_any (k : Nat) (hk : k < 256) (A : Option Addr) (n c : Nat) (w : World) (hR : Rd w w.heap.size 2 A n (scells (usedL k))) :
    Calls Tryz.prog 110 #[.agg #[.int .u64 1073741824, .int .u64 1048576], .slice A n c] w (SpRet w [restSp k]) := by
  have hn : n ≤ 1 := by
    have := hR.len; rw [scells_length] at this
    have h2 : (usedL k).length ≤ 1 := by unfold usedL; split <;> simp
    omega
  have hgood := fun W => good_any ⟨1073741824, 1048576⟩ ⟨by decide, by decide⟩ W
  have hlast := fun W => last_any ⟨1073741824, 1048576⟩ ⟨by decide, by decide⟩ W
  rw [show (⟨1073741824, 1048576⟩ : Sp).good = true by decide] at hgood
  rw [show (⟨1073741824, 1048576⟩ : Sp).last = 1074790399 by decide] at hlast
  simp only [Sp.cells] at hgood hlast
  have hmrg := fun W (hB : Below w.heap.size w W) => merged_any A n c (usedL k) (usedL_ok (by omega)) (by omega) W ((hR.below hB).more hB.size)
  have hsp := fun A2 m c2 (L : List En) (hL : ∀ e ∈ L, EnOk e) (hm : m ≤ 1000000) W (hr : Rd W W.heap.size 2 A2 m (ecells L)) => spans_any A2 m c2 L hL hm W hr
  clear hR
  go_enter Tryz.func110, Tryz.ntmps110
  go_wp2_with fail
  have B1 := (Below.refl _ w).alloc (Nat.le_refl _) (.cells #[.int .u64 1073741824, .int .u64 1048576] 25)
  have g1 := Blk.new w 25 #[.int .u64 1073741824, .int .u64 1048576]
  refine (hgood _).mono ?_
  rintro e w2 ⟨rfl, hB2⟩
  have g2 := g1.below hB2 g1.lt
  have B2 := B1.trans (hB2.mono B1.size)
  have k0 : w2.cell? ⟨w.heap.size, 0, none⟩ = some (.int .u64 1073741824) := (g2.cell 0).trans rfl
  have k1 : w2.cell? ⟨w.heap.size, 1, none⟩ = some (.int .u64 1048576) := (g2.cell 1).trans rfl
  clear hgood g1 B1 hB2
  go_wp2_with fail
  refine Flow.wp_region_flow (w2.heap.size) [] [] (by kernel_rfl) (by kernel_rfl) (Nat.le_refl _) (fun _ h => by cases h) Flow.facts_nil ?_
  refine Flow.pass_val (.pointer (some ⟨w.heap.size, 0, none⟩)) (Flow.met_none rfl) (fun a W hH => ?_) ?_
  · have e0 := Flow.see_old 2 hH.sees (by kernel_rfl) (by kernel_rfl) rfl
    go_simp; first | done | rfl
  refine Flow.pass_val (.int .u64 1073741824) (Flow.met_none rfl) (fun a W hH => ?_) ?_
  · have e0 := Flow.see_new 13 0 hH.sees (by kernel_rfl) (by kernel_rfl) rfl rfl
    have cc : World.cell? W ⟨w.heap.size, 0, none⟩ = some (.int .u64 1073741824) := ((g2.drew.below hH.below g2.lt).cell 0).trans rfl; go_simp; first | done | rfl
  refine Flow.pass_val (.agg #[.int .u64 1073741824, .int .u64 1048576]) (Flow.met_none rfl) (fun a W hH => ?_) ?_
  · have e0 := Flow.see_old 2 hH.sees (by kernel_rfl) (by kernel_rfl) rfl
    exact reg_load 25 _ rfl e0 (g2.drew.below hH.below g2.lt) Tryz.underlying25 rfl infSpan
  refine Flow.pass_step (Reg.eqs (.int .u64 1074790399)) (fun _ _ => Flow.kept_eqs _ _) (Flow.met_none rfl) (fun a W hH => ?_) ?_
  · have e0 := Flow.see_new 15 2 hH.sees (by kernel_rfl) (by kernel_rfl) rfl rfl
    refine Reg.wp_call rfl Tryz.func17 rfl (by kernel_rfl) (by simp [Act.eval, e0]) (hlast W) ?_
    rintro e w' ⟨rfl, hB⟩
    exact ⟨_, rfl, _, rfl, hB, rfl⟩
  refine Flow.pass_val (.int .u64 1073741824) (Flow.met_none rfl) (fun a W hH => ?_) ?_
  · have e0 := Flow.see_new 14 1 hH.sees (by kernel_rfl) (by kernel_rfl) rfl rfl
    go_simp; first | done | rfl
  refine Flow.pass_val (.int .u64 1074790399) (Flow.met_none rfl) (fun a W hH => ?_) ?_
  · have e0 := Flow.see_new 16 3 hH.sees (by kernel_rfl) (by kernel_rfl) rfl rfl
    go_simp; first | done | rfl
  refine Flow.pass_end [none, none, none, none, none, none, some 6, some 7, none, none, none, none, none, some 13, some 14, some 15, some 16, none, none, none, none, none, none, none, none, none, none, none, none, none, none, none, none, none, none, none, none, none, none, none, none, none, none, none, none, none, none, none, none, none, none, none, none, none, none, none, none, none, none, none, none] (by kernel_rfl) ?_
  intro f gg w9 hB hfa hT hfg
  have h6 : f 6 = _ := (hfg 6 4 (by kernel_rfl)).trans (hT 4 _ (by kernel_rfl) rfl)
  have h7 : f 7 = _ := (hfg 7 5 (by kernel_rfl)).trans (hT 5 _ (by kernel_rfl) rfl)
  simp only [Reg.sel, h6, h7]
  have B3 := B2.drew.trans (hB.mono B2.size)
  clear hT hfg hfa h6 h7 hB g2 B2 hlast k0 k1
  go_wp2_with fail
  refine (hmrg _ B3).mono ?_
  rintro e w4 ⟨srt, A4, c4, hsrt, rfl, hO4, hB4⟩
  have hs2 := sorted_one hsrt (by rw [goodE_used (by omega)]; exact usedE_len k)
  rw [goodE_used (by omega)] at hs2
  rw [hs2, mergeE_used] at hO4
  rw [hs2, mergeE_used]
  have B4 := B3.trans (hB4.mono B3.size)
  have hR4 : Rd w4 w4.heap.size 2 A4 (usedE k).length (ecells (usedE k)) := Rd.of_own hO4
  clear hmrg hsrt hs2 srt hO4 hB4 B3
  have hu1 := usedE_len k
  obtain ⟨U, hU⟩ : ∃ U, U = (usedE k).length := ⟨_, rfl⟩
  have hU0 : U = 0 → k = 0 := by intro h; rw [hU] at h; unfold usedE at h; split at h <;> simp_all
  have hU1 : U ≠ 0 → usedE k = [(1073741824, 1073741824 + k * 4096 - 1)] ∧ 1 ≤ k := by
    intro h; rw [hU] at h; unfold usedE at h ⊢; split at h
    · simp at h
    · rename_i h2; rw [if_neg h2]; exact ⟨rfl, by omega⟩
  rw [← hU] at hR4 hu1 ⊢
  clear hU
  have HU0 := Lib.hid hU0
  have HU1 := Lib.hid hU1
  clear hU0 hU1
  go_wp2_with fail
  go_loopw [5, 6, 20] (fun o f i wr => ∃ j F : Nat, o = .slice none 0 0 ∧ j ≤ U ∧ i = .int .i64 (j : Int) ∧ f = .int .u64 (F : Int) ∧ (j = U → F = 1073741824 + k * 4096) ∧ (j < U → F = 1073741824) ∧ Below w.heap.size w wr ∧ Below w4.heap.size w4 wr) (fun _ _ i _ => 1 - (intOf i).toNat)
  case atStart =>
    refine ⟨0, 1073741824, rfl, Nat.zero_le _, rfl, rfl, fun h => ?_, fun _ => rfl, B4, Below.refl _ _⟩
    rw [HU0.out h.symm]
  case round =>
    obtain ⟨j, F, rfl, hj, rfl, rfl, hF0, hF1, hB4', hB44⟩ := hrel
    by_cases hlt : j < U
    · obtain ⟨hUe, hk1⟩ := HU1.out (by omega)
      have hF : F = 1073741824 := hF1 hlt
      have hU1 : U = 1 := by omega
      obtain rfl : j = 0 := by omega
      have hRr := hR4.below hB44
      rw [hUe] at hRr
      obtain ⟨b1, o1, rfl, hb1, hr1⟩ := hRr.range (by omega)
      obtain ⟨to, hto⟩ : ∃ to, to = 1073741824 + k * 4096 - 1 := ⟨_, rfl⟩
      rw [← hto] at hr1
      obtain ⟨X, hX⟩ : ∃ X : Nat, X = 1073741824 := ⟨_, rfl⟩
      have r0 : wr.cell? ⟨b1, o1, none⟩ = some (.int .u64 (X : Int)) := by rw [hX]; exact hr1 0 _ rfl
      have r1 : wr.cell? ⟨b1, o1 + 1, none⟩ = some (.int .u64 (to : Int)) := hr1 1 _ rfl
      have t1 : ¬ to < F := by omega
      have t4 : decide ((1074790399 : Int) < (X : Int)) = false := by simp; omega
      have t6 : decide (F < X) = false := by simp; omega
      have t7 : decide (to < F) = false := by simp; omega
      have t5 : ¬ F < X := by omega
      have t2 : decide ((1074790399 : Int) ≤ (to : Int)) = false := by simp; omega
      have t3 : IntKind.u64.wrap ((to : Int) + 1) = (to : Int) + 1 := IntWalk.u64_in _ (by omega)
      have HTO := Lib.hid hto
      have HU := Lib.hid hU1
      clear hr1 hRr hUe hto hF0 hF1 hU1 hF hX
      go_wp2
      go_roundw
      case rel => exact ⟨1, to + 1, rfl, by omega, rfl, by go_num, fun _ => by have := HTO.out; omega, fun h => by have := HU.out; omega, hB4'.alloc hB4'.size _, hB44.alloc hB44.size _⟩
      case measure => simp [intOf]
    · obtain rfl : j = U := by omega
      have hF : F = 1073741824 + k * 4096 := hF0 rfl
      have hF3 : F ≤ 1074790399 := by omega
      have hsp3 : [restSp k] = [toSp (F, 1074790399)] := by simp only [restSp, toSp, hF]; congr 2; omega
      have HSP := Lib.hid hsp3
      clear hF0 hF1 hF hsp3 hB44
      have N6 := Blk.new wr 191 #[.int .u64 (F : Int), .int .u64 1074790399]
      have R6 := N6.rd (size := 2) (n := 1) rfl
      have B6 : Below w.heap.size w (wr.alloc (.cells #[.int .u64 (F : Int), .int .u64 1074790399] 191)) := hB4'.alloc hB4'.size _
      have hb6 := B6.size
      clear N6
      go_wp2_with (at_builtin; refine wpList_app _ elEnds rfl _ _ rfl w.heap.size none 0 0 _ rfl (World.ownsRow_nil _ _ _ _) _ (some ⟨wr.heap.size, 0, none⟩) 1 1 [.int .u64 (F : Int), .int .u64 1074790399] rfl R6 (fun u hu => by simp only [List.mem_cons, List.not_mem_nil, or_false] at hu; rcases hu with rfl | rfl <;> rfl) (by omega) (by omega) hb6 ?_; intro A3 c3 w6 hO3 hg3 hB3 hob)
      have B7 := B6.trans hB3
      have hsp2 := hsp A3 1 c3 [(F, 1074790399)] (fun e he => by rw [List.mem_singleton.1 he]; exact ⟨hF3, by simp only; omega⟩) (by omega) w6 ((Rd.of_own hO3).more (by first | exact B7.size | omega))
      clear hsp
      refine hsp2.mono ?_
      rintro e w7 ⟨A8, c8, rfl, hO8, hB8⟩
      go_wp2
      go_ret
      exact ⟨A8, c8, rfl, by rw [HSP.out]; exact own_baseG hO8 B7.size, B7.trans (hB8.mono B7.size)⟩
end Go.Proofs.YtpellkblaeeopaaGreatDoor
/-
  Walks: frame: whole, free, and its iterator (one stretch that is free: the pool's rest).
-/
namespace Go.Proofs.YtpellkblaeeopaaGreatDoor
open Go.RowKit Go.Shelf

attribute [local go_sem] Oper.semAt_some

set_option maxRecDepth 100000 in
set_option maxHeartbeats 400000 in
theorem whole_any (w : World) : Calls Tryz.prog 111 #[.agg #[.int .u64 1073741824, .int .u64 256]] w fun e w' => e = .returned (.agg #[.int .u64 1073741824, .int .u64 1048576]) ∧ Below w.heap.size w w' := by
  go_enter Tryz.func111, Tryz.ntmps111
  go_wp2
  have hb := Blk.new (w.alloc (.cells #[.int .u64 1073741824, .int .u64 256] 78)) 25 #[.int .u64 1073741824, .int .u64 1048576]
  refine bodyPost_ret (results_cellS (cs := #[.int .u64 1073741824, .int .u64 1048576]) rfl _ _ (w.heap.size + 1) _ _ _ rfl (by rw [World.size_alloc] at hb; exact hb) Tryz.underlying25 rfl infSpan) rfl ?_
  exact ⟨rfl, ((Below.refl _ w).alloc (Nat.le_refl _) _).alloc (by simp) _⟩
/-- the pool's cells: k pages are handed out, told by the row in A -/
def poolCs (A : Option Addr) (n c k : Nat) : Array Value := #[.int .u64 1073741824, .int .u64 256, .slice A n c, .int .u64 (k : Int)]
theorem infBounds : (Tryz.prog.info? 78).map (·.size) = some 2 := by kernel_rfl
theorem pool_bounds {w : World} {g : Nat} {A : Option Addr} {n c k : Nat} (h : Blk w g 80 (poolCs A n c k)) : w.rangeAt g 0 [.int .u64 1073741824, .int .u64 256] := by
  intro j v hv
  rw [Nat.zero_add, h.cell]
  match j with
  | 0 => exact hv
  | 1 => exact hv
  | j + 2 => simp at hv
set_option maxRecDepth 100000 in
set_option maxHeartbeats 400000 in
theorem free_in (F : Fence) (n' : Nat) (h8 : F.fn 94) (hro : F.round = none) (g : Nat) (w : World) :
    CallsIn F n' Tryz.prog 94 #[.pointer (some ⟨g, 0, none⟩)] w fun e w' => e = .returned (.func (.func 109) #[] #[.pointer (some ⟨w.heap.size, 0, none⟩)]) ∧ w' = w.alloc (.cells #[.pointer (some ⟨g, 0, none⟩)] 30) := by
  refine callsIn_of_wp Tryz.func94 rfl h8 ?_ hro
  simp only [Tryz.ntmps94, List.size_toArray, List.length_cons, List.length_nil, Nat.reduceAdd, Nat.reduceSub, Array.replicate_succ, Array.replicate_zero, List.push_toArray, List.append_toArray, List.nil_append, List.cons_append]
  gi_wp2
  go_ret
  exact ⟨rfl, rfl⟩
def restK (k : Nat) : Reg.Kd := fun v w => ∃ A c, v = .slice A 1 c ∧ Rd w w.heap.size 2 A 1 (scells [restSp k])
theorem stable_rest (k : Nat) : Reg.Stable (restK k) := fun _ _ _ ⟨A, c, h1, h2⟩ h => ⟨A, c, h1, h2.ext h⟩
abbrev rsEncs (k : Nat) (_ : Unit) : Array Value := #[.agg (restSp k).cells]
set_option maxRecDepth 100000 in
set_option maxHeartbeats 4000000 in
theorem free1_in (n' ly bb n0 : Nat) (hn' : 1 ≤ n') (g k : Nat) (A : Option Addr) (n c : Nat) (hk : k < 256) (Z : Nat → Prop) (_hZ1 : Z bb) (_hZ2 : Z g) (Jv Jx : List Unit → World → Prop) (w1 : World) (hAb : AbidesFrom w1.heap.size Jv)
    (hY : ∀ pre x W, Jv pre W → pre.length < 10000 → YieldAt Fence.wide (n' - 1) Tryz.prog ly (rsEncs k x) W fun e W' =>
      (e = .returned (.bool true) ∧ Jv (pre ++ [x]) W' ∧ KBs Z n0 W W') ∨ (e = .returned (.bool false) ∧ Jx (pre ++ [x]) W'))
    (hn0 : n0 ≤ w1.heap.size) (hZl : ∀ b, Z b → b < w1.heap.size) (hB1 : Blk w1 bb 30 #[.pointer (some ⟨g, 0, none⟩)]) (hG : Blk w1 g 80 (poolCs A n c k)) (hR : Rd w1 n0 2 A n (scells (usedL k))) (h0 : Jv [] w1) :
    CallsIn Fence.wide n' Tryz.prog 109 #[.func (.yield ly) #[] #[], .pointer (some ⟨bb, 0, none⟩)] w1 fun e W' => (∃ v, e = .returned v) ∧
      ((∃ ys, ys = [()] ∧ Jv ys W') ∨ (∃ pre, pre <+: [()] ∧ Jx pre W')) := by
  have cb : w1.cell? ⟨bb, 0, none⟩ = some (.pointer (some ⟨g, 0, none⟩)) := (hB1.cell 0).trans rfl
  have c0 : w1.cell? ⟨g, 0, none⟩ = some (.int .u64 1073741824) := (hG.cell 0).trans rfl
  have c1 : w1.cell? ⟨g, 1, none⟩ = some (.int .u64 256) := (hG.cell 1).trans rfl
  have c2 : w1.cell? ⟨g, 2, none⟩ = some (.slice A n c) := (hG.cell 2).trans rfl
  refine callsIn_of_wp Tryz.func109 rfl trivial ?_ rfl
  simp only [Tryz.ntmps109, List.size_toArray, List.length_cons, List.length_nil, Nat.reduceAdd, Nat.reduceSub, Array.replicate_succ, Array.replicate_zero, List.push_toArray, List.append_toArray, List.nil_append, List.cons_append]
  gi_wp2_with fail
  clear cb c0 c1 c2
  have hR0 := hR
  replace hR := hR.more hn0
  refine Reg.wpIn_region_tail Plain.wide (by kernel_rfl) 12 [] (by kernel_rfl) (by kernel_rfl) (by kernel_rfl) (by kernel_rfl) (by kernel_rfl) ?_
  refine Reg.pass_val (.pointer (some ⟨g, 0, none⟩)) (Reg.met_none rfl) (fun a W hE hS => ?_) ?_
  · have e0 := Reg.see_old 1 hS (by kernel_rfl) (by kernel_rfl) rfl
    have cc : World.cell? W ⟨bb, 0, none⟩ = some (.pointer (some ⟨g, 0, none⟩)) := ((hB1.drew.ext hE).cell 0).trans rfl; go_simp; first | done | rfl
  refine Reg.pass_val (.pointer (some ⟨g, 0, none⟩)) (Reg.met_none rfl) (fun a W hE hS => ?_) ?_
  · have e0 := Reg.see_new 11 0 hS (by kernel_rfl) (by kernel_rfl) rfl rfl
    go_simp; first | done | rfl
  refine Reg.pass_val (.pointer (some ⟨g, 0, none⟩)) (Reg.met_none rfl) (fun a W hE hS => ?_) ?_
  · have e0 := Reg.see_new 12 1 hS (by kernel_rfl) (by kernel_rfl) rfl rfl
    go_simp; first | done | rfl
  refine Reg.pass_val (.agg #[.int .u64 1073741824, .int .u64 256]) (Reg.met_none rfl) (fun a W hE hS => ?_) ?_
  · have e0 := Reg.see_new 13 2 hS (by kernel_rfl) (by kernel_rfl) rfl rfl
    exact reg_loadPK 78 _ rfl e0 (pool_bounds (hG.drew.ext hE)) Tryz.underlying78 rfl infBounds
  refine Reg.pass_step (Reg.eqs (.agg #[.int .u64 1073741824, .int .u64 1048576])) (Reg.stable_eqs _) (Reg.met_none rfl) (fun a W hE hS => ?_) ?_
  · have e0 := Reg.see_new 14 3 hS (by kernel_rfl) (by kernel_rfl) rfl rfl
    refine Reg.wp_call rfl Tryz.func111 rfl (by kernel_rfl) (by simp [Act.eval, e0]) (whole_any W) ?_
    rintro e w' ⟨rfl, hB⟩
    exact ⟨_, rfl, _, rfl, hB, rfl⟩
  refine Reg.pass_val (.pointer (some ⟨g, 0, none⟩)) (Reg.met_none rfl) (fun a W hE hS => ?_) ?_
  · have e0 := Reg.see_old 1 hS (by kernel_rfl) (by kernel_rfl) rfl
    have cc : World.cell? W ⟨bb, 0, none⟩ = some (.pointer (some ⟨g, 0, none⟩)) := ((hB1.drew.ext hE).cell 0).trans rfl; go_simp; first | done | rfl
  refine Reg.pass_val (.pointer (some ⟨g, 0, none⟩)) (Reg.met_none rfl) (fun a W hE hS => ?_) ?_
  · have e0 := Reg.see_new 16 5 hS (by kernel_rfl) (by kernel_rfl) rfl rfl
    go_simp; first | done | rfl
  refine Reg.pass_val (.pointer (some ⟨g, 2, none⟩)) (Reg.met_none rfl) (fun a W hE hS => ?_) ?_
  · have e0 := Reg.see_new 17 6 hS (by kernel_rfl) (by kernel_rfl) rfl rfl
    go_simp; first | done | rfl
  refine Reg.pass_val (.slice A n c) (Reg.met_none rfl) (fun a W hE hS => ?_) ?_
  · have e0 := Reg.see_new 18 7 hS (by kernel_rfl) (by kernel_rfl) rfl rfl
    have cc : World.cell? W ⟨g, 2, none⟩ = some (.slice A n c) := ((hG.drew.ext hE).cell 2).trans rfl; go_simp; first | done | rfl
  refine Reg.pass_step (restK k) (stable_rest k) (Reg.met_none rfl) (fun a W hE hS => ?_) ?_
  · have e0 := Reg.see_new 15 4 hS (by kernel_rfl) (by kernel_rfl) rfl rfl
    have e1 := Reg.see_new 19 8 hS (by kernel_rfl) (by kernel_rfl) rfl rfl
    refine Reg.wp_call rfl Tryz.func110 rfl (by kernel_rfl) (by simp [Act.eval, e0, e1]) (cutU_any k hk A n c W (hR.ext ((Ext.refl w1).drew.trans hE))) ?_
    rintro e w' ⟨A2, c2, rfl, hO, hB⟩
    exact ⟨_, rfl, _, rfl, hB, A2, c2, rfl, Rd.of_own hO⟩
  refine Reg.pass_val (.int .i64 1) (Reg.met_none rfl) (fun a W hE hS => ?_) ?_
  · obtain ⟨A0, c0, e0, q0⟩ := Reg.see_kind 20 9 hS (by kernel_rfl) (by kernel_rfl) rfl rfl
    go_simp; first | done | rfl
  refine Reg.pass_val (.int .i64 0) (Reg.met_none rfl) (fun a W hE hS => ?_) ?_
  · go_simp; first | done | rfl
  refine ⟨(fun i hi => by cases hi), ?_⟩
  refine Reg.tail_end [none, none, none, none, none, none, none, none, none, none, none, some 11, some 12, some 13, some 14, some 15, some 16, some 17, some 18, some 19, some 20, some 21, some 22, none, none, none, none, none, none, none, none] (by kernel_rfl) ?_
  intro ff w9 hE hf hfr
  have h11 : ff 11 = _ := hf 11 0 _ (by kernel_rfl) (by decide) rfl
  have h12 : ff 12 = _ := hf 12 1 _ (by kernel_rfl) (by decide) rfl
  have h13 : ff 13 = _ := hf 13 2 _ (by kernel_rfl) (by decide) rfl
  have h14 : ff 14 = _ := hf 14 3 _ (by kernel_rfl) (by decide) rfl
  have h15 : ff 15 = _ := hf 15 4 _ (by kernel_rfl) (by decide) rfl
  have h16 : ff 16 = _ := hf 16 5 _ (by kernel_rfl) (by decide) rfl
  have h17 : ff 17 = _ := hf 17 6 _ (by kernel_rfl) (by decide) rfl
  have h18 : ff 18 = _ := hf 18 7 _ (by kernel_rfl) (by decide) rfl
  have h19 : ff 19 = _ := hf 19 8 _ (by kernel_rfl) (by decide) rfl
  obtain ⟨A20, c20, h20, q20⟩ : (restK k) (ff 20) w9 := hf 20 9 _ (by kernel_rfl) (by decide) rfl
  have h21 : ff 21 = _ := hf 21 10 _ (by kernel_rfl) (by decide) rfl
  have h22 : ff 22 = _ := hf 22 11 _ (by kernel_rfl) (by decide) rfl
  clear hf hfr 
  simp only [Reg.sel, h11, h12, h13, h14, h15, h16, h17, h18, h19, h20, h21, h22, List.drop_succ_cons, List.drop_zero]
  have hE1 : Ext w1 w9 := (Ext.refl w1).drew.trans hE
  have hJ9 : Jv [] w9 := hAb _ _ _ none h0 ⟨hE1.os, hE1.tape, hE1.output, hE1.size, fun k hk _ => hE1.block k hk⟩ (fun r e => by cases e)
  have hK9 : KBs Z n0 w1 w9 := ⟨fun b hb => hE1.block b (hZl b hb), hE1.mono hn0⟩
  clear h11 h12 h13 h14 h15 h16 h17 h18 h19 h20 h21 h22 hE hG hB1 hR hR0
  gi_wp2_with fail
  gi_loopw [22] (fun i wr => (i = .int .i64 0 ∧ wr = w9) ∨ (i = .int .i64 1 ∧ Jv [()] wr)) (fun i _ => 1 - (intOf i).toNat)
  case atStart => exact .inl ⟨rfl, rfl⟩
  case round =>
    rcases hrel with ⟨rfl, rfl⟩ | ⟨rfl, hJ⟩
    · obtain ⟨b1, o1, rfl, hb1, hr1⟩ := q20.range (by omega)
      have h1' := hr1 0 _ rfl
      have h2' := hr1 1 _ rfl
      have r0 : wr.cell? ⟨b1, o1, none⟩ = some (.int .u64 ((restSp k).base : Int)) := h1'
      have r1 : wr.cell? ⟨b1, o1 + 1, none⟩ = some (.int .u64 ((restSp k).size : Int)) := h2'
      have hE2 : Ext w1 (wr.alloc (.cells (restSp k).cells 25)) := hE1.trans ((Ext.refl wr).alloc _)
      have hE3 : Ext wr (wr.alloc (.cells (restSp k).cells 25)) := (Ext.refl wr).alloc _
      have hJ2 : Jv [] (wr.alloc (.cells (restSp k).cells 25)) := hAb _ _ _ none h0 ⟨hE2.os, hE2.tape, hE2.output, hE2.size, fun k hk _ => hE2.block k hk⟩ (fun r e => by cases e)
      have hyy := hY [] () _ hJ2 (by simp)
      obtain ⟨fn, tmps, assign, body, hy, hR3⟩ := hyy
      clear hr1 h1' h2' q20 hE1 hE2 hE3 hJ9 hK9 hJ2 h0
      simp only [rsEncs, Sp.cells] at hy hR3
      gi_wp2
      refine hR3.mono ?_
      rintro e W3 (⟨rfl, hJ3, hk3⟩ | ⟨rfl, hJx3⟩)
      · gi_wp2
        go_roundw
        case rel => exact .inr ⟨by simp, hJ3⟩
        case measure => simp [intOf]
      · gi_wp2
        refine bodyPost_ret (results_none rfl _ _ _) rfl ?_
        exact ⟨⟨_, rfl⟩, .inr ⟨_, List.prefix_refl _, hJx3⟩⟩
    · gi_wp2
      go_end0
      exact ⟨⟨_, rfl⟩, .inl ⟨_, rfl, hJ⟩⟩
end Go.Proofs.YtpellkblaeeopaaGreatDoor
