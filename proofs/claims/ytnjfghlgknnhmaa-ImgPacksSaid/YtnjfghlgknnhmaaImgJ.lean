/-
  Plain: what is put is read again. Walks: chapter 15's example; the laws ImgHeaders, ImgBack.
-/
import Derived.Test.YtnjfghlgknnhmaaImgI
import Derived.Test.YtnjfghlgknnhmaaNum2
namespace Go.Proofs.Ytnjfghlgknnhmaa
open Go.RowKit

theorem rdNum_frontp (a b : List UInt8) (p n : Nat) (h : p + n ≤ a.length) : rdNum (a ++ b) p n false = rdNum a p n false := by
  have h1 : (0 : Int) ≤ (p : Int) ∧ (p : Int) + n ≤ (a ++ b).length := by rw [List.length_append]; omega
  have h2 : (0 : Int) ≤ (p : Int) ∧ (p : Int) + n ≤ a.length := by omega
  rw [rdNum, rdNum, if_pos h1, if_pos h2]
  unfold readNum
  apply numOf_congr
  intro j hj
  unfold byteAt
  rw [List.getElem?_append_left (by simp; omega)]
theorem nmOk_nz {s : List UInt8} (h : nmOk s = true) : ∀ c ∈ s, c ≠ 0 := by
  intro c hc e
  simp only [nmOk, Bool.and_eq_true, List.all_eq_true] at h
  have := h.1.1 c hc
  rw [e] at this
  exact absurd this (by decide)
theorem nmAt_bytes (h : Hd) (hk : nmOk h.name = true) : nmAt (hdBytes h) = h.name := by
  have h16 := nmOk_le hk
  unfold nmAt
  rw [hdBytes, List.drop_left' (by rw [putAll_len4]; rfl), List.take_left' (pad16_length _ h16), pad16, List.takeWhile_append_of_pos]
  · have : (List.replicate (16 - h.name.length) (0 : UInt8)).takeWhile (fun c => !(c == 0)) = [] := by
      cases 16 - h.name.length with
      | zero => rfl
      | succ n => rfl
    rw [this, List.append_nil]
  · intro c hc
    have := nmOk_nz hk c hc
    simpa using this
theorem hdRaw_back (h : Hd) (ok : h.ok) (hk : nmOk h.name = true) : hdRaw (hdBytes h) = h := by
  have h16 := nmOk_le hk
  have e : hdBytes h = (putNum 1112100167 4 false ++ putNum h.ver 4 false) ++ (putNum h.size 4 false ++ (putNum 0 4 false ++ (pad16 h.name ++ h.dig))) := by simp [hdBytes, putAll]
  have e2 : hdBytes h = ((putNum 1112100167 4 false ++ putNum h.ver 4 false) ++ putNum h.size 4 false) ++ (putNum 0 4 false ++ (pad16 h.name ++ h.dig)) := by simp [hdBytes, putAll]
  have v : rdNum (hdBytes h) (4 : Nat) 4 false = h.ver := by
    rw [e, rdNum_frontp _ _ 4 4 (by simp [putNum_length])]
    have := read_put (putNum 1112100167 4 false) h.ver 4 false (by have := ok.ver; omega)
    rwa [putNum_length] at this
  have s : rdNum (hdBytes h) (8 : Nat) 4 false = h.size := by
    rw [e2, rdNum_frontp _ _ 8 4 (by simp [putNum_length])]
    have := read_put (putNum 1112100167 4 false ++ putNum h.ver 4 false) h.size 4 false (by have := ok.size; omega)
    rwa [List.length_append, putNum_length, putNum_length] at this
  have n := nmAt_bytes h hk
  have d : (hdBytes h).drop 32 = h.dig := by
    rw [hdBytes, ← List.append_assoc, List.drop_left' (by rw [List.length_append, putAll_len4, pad16_length _ h16]; rfl)]
  have v' : rdNum (hdBytes h) 4 4 false = h.ver := v
  have s' : rdNum (hdBytes h) 8 4 false = h.size := s
  rw [hdRaw, v', s', n, d]
theorem hdGood_back (h : Hd) (ok : h.ok) (hk : nmOk h.name = true) : hdGood (hdBytes h) = true := by
  rw [hdGood, hdRaw_back h ok hk, nmAt_bytes h hk, hk, hdBytes_length h ok.dig (nmOk_le hk)]; simp

/-- == on headers that are one -/
theorem hdLits (h : Hd) (ok : h.ok) : ∃ l, Try.prog.keyLits 3 55 (hdCells h) = some l := by
  have h35 : Try.prog.cellsOf 55 = 35 := by kernel_rfl
  have c1 : Try.prog.cellsOf 22 = 1 := by kernel_rfl
  have cs : Try.prog.cellsOf 9 = 1 := by kernel_rfl
  have c32 : Try.prog.cellsOf 29 = 32 := by kernel_rfl
  have c8 : Try.prog.cellsOf 5 = 1 := by kernel_rfl
  have hlen := hdCells_length h ok.dig
  have wf1 : (Lit.int .u32 (h.ver : Int)).wf = true := by have := ok.ver; simp [Lit.wf, IntKind.min, IntKind.max, IntKind.bits, IntKind.signed]; omega
  have wf2 : (Lit.int .u32 (h.size : Int)).wf = true := by have := ok.size; simp [Lit.wf, IntKind.min, IntKind.max, IntKind.bits, IntKind.signed]; omega
  have e : hdCells h = [[.int .u32 (h.ver : Int)], [.int .u32 (h.size : Int)], [.string ⟨h.name.toArray⟩], bcells h.dig].flatten := by simp [hdCells]
  have k0 := keyLits_int (P := Try.prog) (d := 1) Try.underlying22 (h.ver : Int) wf1
  have k1 := keyLits_int (P := Try.prog) (d := 1) Try.underlying22 (h.size : Int) wf2
  have k2 := keyLits_string (P := Try.prog) (d := 1) Try.underlying9 ⟨h.name.toArray⟩ (by show h.name.length ≤ maxLen; have := ok.name; unfold maxLen; omega)
  have k3 := keyLits_bytes (P := Try.prog) (d := 0) Try.underlying29 Try.underlying5 c8 c32 h.dig ok.dig
  have hk := keyLits_struct (P := Try.prog) (d := 2) Try.underlying55 (by kernel_rfl) [[.int .u32 (h.ver : Int)], [.int .u32 (h.size : Int)], [.string ⟨h.name.toArray⟩], bcells h.dig] _ (by rw [← e, hlen, h35])
    (fits_cons rfl c1 k0 (fits_cons rfl c1 k1 (fits_cons rfl cs k2 (fits_cons rfl (by rw [bcells_length, ok.dig]; exact c32) k3 fits_nil))))
  rw [← e] at hk
  exact ⟨_, hk⟩
theorem hdFormed (h : Hd) (ok : h.ok) : (Value.agg (hdCells h).toArray).formed Try.prog 55 = true := by
  have h35 : Try.prog.cellsOf 55 = 35 := by kernel_rfl
  exact formed_agg Try.underlying55 rfl (by rw [h35]; simp [hdCells_length h ok.dig])
theorem hdEq (h : Hd) (ok : h.ok) (w : World) : (binOp .eql 55 (.agg (hdCells h).toArray) (.agg (hdCells h).toArray)).run Try.prog w = .ok (.bool true) w := by
  obtain ⟨l, hl⟩ := hdLits h ok
  exact run_eql_self (m := 4) (D := 3) w (by omega) (by kernel_rfl) (hdFormed h ok) (by rw [List.toList_toArray]; exact hl)
theorem hdNe (h : Hd) (ok : h.ok) (w : World) : (binOp .neq 55 (.agg (hdCells h).toArray) (.agg (hdCells h).toArray)).run Try.prog w = .ok (.bool false) w := by
  obtain ⟨l, hl⟩ := hdLits h ok
  have fx := hdFormed h ok
  obtain ⟨b, hb, hiff⟩ := run_equalIn_deep (P := Try.prog) (10000 - 4) 4 55 (by kernel_rfl) w 3 3 (.agg (hdCells h).toArray) (.agg (hdCells h).toArray) _ _ fx fx (by simpa [Value.cells] using hl) (by simpa [Value.cells] using hl)
  rw [run_neq_struct, hb, hiff.2 rfl]; rfl
theorem hdGuard : Try.prog.eqGuardType Try.prog.depth 55 = false := by kernel_rfl
end Go.Proofs.Ytnjfghlgknnhmaa
