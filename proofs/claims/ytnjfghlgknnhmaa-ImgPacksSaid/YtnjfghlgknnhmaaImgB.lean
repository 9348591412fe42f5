/-
  Walks: cfg.Name and portreeveref14.Name: whether a text is a name.
-/
import Derived.Test.YtnjfghlgknnhmaaImgA
namespace Go.Proofs.Ytnjfghlgknnhmaa
open Go.RowKit

theorem name_take (s : ByteArray) (k : Nat) (hlt : k < s.size) (h : (s.data.toList.take k).all nmB = true) (hc : nmB s[k] = true) : (s.data.toList.take (k + 1)).all nmB = true := by
  have hl : s.data.toList[k]? = some s[k] := by
    rw [Array.getElem?_toList, Array.getElem?_eq_getElem (by exact hlt)]; rfl
  rw [all_take _ _ (by simpa using hlt) _ hl, h, hc]; rfl
theorem name_no (s : ByteArray) (k : Nat) (hlt : k < s.size) (hc : nmB s[k] = false) : nmOk s.data.toList = false := by
  have hl : s.data.toList[k]? = some s[k] := by
    rw [Array.getElem?_toList, Array.getElem?_eq_getElem (by exact hlt)]; rfl
  exact all_no _ k _ hl hc
theorem name_end (l : List UInt8) (h : (l.take l.length).all nmB = true) (b : Bool) (hb : b = (decide (1 ≤ l.length) && decide (l.length ≤ 16))) : nmOk l = b := by
  rw [List.take_length] at h
  rw [hb, nmOk, h]; simp

set_option maxRecDepth 100000 in
set_option maxHeartbeats 2000000 in
theorem rName_any (s : ByteArray) (hs : s.size ≤ 9223372036854775807) (w : World) :
    Calls Try.prog 75 #[.string s] w fun e w' => e = .returned (.bool (nmOk s.data.toList)) ∧ w' = w := by
  obtain ⟨N, hN⟩ : ∃ N, N = nmOk s.data.toList := ⟨_, rfl⟩
  rw [← hN]
  have HN := Lib.hid hN
  clear hN
  go_enter Try.func75, Try.ntmps75
  go_wp2
  go_loop [3] (fun i => ∃ k : Nat, k ≤ s.size ∧ i = .int .i64 k ∧ Hid ((s.data.toList.take k).all nmB = true)) (fun i => s.size - (intOf i).toNat)
  case atStart => exact ⟨0, Nat.zero_le _, rfl, Lib.hid rfl⟩
  case round =>
    obtain ⟨k, hk, rfl, hall⟩ := hrel
    by_cases hlt : k < s.size
    · have hyes : Hid (nmB s[k] = true → (s.data.toList.take (k + 1)).all nmB = true) := Lib.hid (name_take s k hlt hall.out)
      have hno : Hid (nmB s[k] = false → N = false) := Lib.hid (fun h => by rw [HN.out]; exact name_no s k hlt h)
      rcases nm_class s[k] with ⟨h1, h2, h3⟩ | ⟨h1, h3⟩ | ⟨h1, h2, h3⟩ | ⟨h1, h2, h3⟩ | ⟨h1, h3⟩ | ⟨h1, h2, h3⟩
      · have H3 := Lib.hid (hyes.out h3)
        clear h3 hyes hno
        go_wp2
        go_round
        case rel => exact ⟨k + 1, by omega, by go_num, H3⟩
        case measure => simp [intOf]; omega
      · have H3 := Lib.hid (hno.out h3)
        clear h3 hyes hno
        have d1 : decide ((s[k].toNat : Int) ≤ 122) = false := by simp; omega
        have d2 : decide ((s[k].toNat : Int) ≤ 57) = false := by simp; omega
        have e1 : (((s[k].toNat : Nat) : Int) == 45) = false := by simp; omega
        go_wp2
        go_ret
        exact ⟨by rw [H3.out]; rfl, rfl⟩
      · have H3 := Lib.hid (hno.out h3)
        clear h3 hyes hno
        have d2 : decide ((s[k].toNat : Int) ≤ 57) = false := by simp; omega
        have e1 : (((s[k].toNat : Nat) : Int) == 45) = false := by simp; omega
        go_wp2
        go_ret
        exact ⟨by rw [H3.out]; rfl, rfl⟩
      · have H3 := Lib.hid (hyes.out h3)
        clear h3 hyes hno
        go_wp2
        go_round
        case rel => exact ⟨k + 1, by omega, by go_num, H3⟩
        case measure => simp [intOf]; omega
      · have H3 := Lib.hid (hyes.out h3)
        clear h3 hyes hno
        go_wp2
        go_round
        case rel => exact ⟨k + 1, by omega, by go_num, H3⟩
        case measure => simp [intOf]; omega
      · have H3 := Lib.hid (hno.out h3)
        clear h3 hyes hno
        have e1 : (((s[k].toNat : Nat) : Int) == 45) = false := by simp; omega
        go_wp2
        go_ret
        exact ⟨by rw [H3.out]; rfl, rfl⟩
    · obtain rfl : k = s.size := by omega
      have HE : ∀ b : Bool, b = (decide (1 ≤ s.size) && decide (s.size ≤ 16)) → N = b := fun b hb => by
        have e : s.data.toList.length = s.size := rfl
        rw [HN.out]; exact name_end _ (by rw [e]; exact hall.out) b (by rw [e]; exact hb)
      have HEh := Lib.hid HE
      clear HE hall
      by_cases h0 : 1 ≤ s.size
      · by_cases h16 : s.size ≤ 16
        · have hd : decide ((s.size : Int) ≤ 16) = true := by simp; omega
          go_wp2
          go_ret
          exact ⟨by rw [HEh.out true (by simp; omega)]; first | done | rfl, rfl⟩
        · have hd : decide ((s.size : Int) ≤ 16) = false := by simp; omega
          go_wp2
          go_ret
          exact ⟨by rw [HEh.out false (by simp; omega)]; first | done | rfl, rfl⟩
      · go_wp2
        go_ret
        exact ⟨by rw [HEh.out false (by simp; omega)]; first | done | rfl, rfl⟩

set_option maxRecDepth 100000 in
set_option maxHeartbeats 2000000 in
theorem mName_any (l : List UInt8) (hs : l.length ≤ 9223372036854775807) (w : World) :
    Calls Try.prog 57 #[.string ⟨l.toArray⟩] w fun e w' => e = .returned (.bool (nmOk l)) ∧ Below w.heap.size w w' := by
  obtain ⟨N, hN⟩ : ∃ N, N = nmOk l := ⟨_, rfl⟩
  rw [← hN]
  have HN := Lib.hid hN
  clear hN
  obtain ⟨c, W, hrun, hR, hB⟩ := run_bytes w (src := 9) (dst := 27) (e := 5) l Try.underlying9 Try.underlying27 Try.underlying5
  go_enter Try.func57, Try.ntmps57
  go_wp2_with ((with_reducible refine at_conv ?_); refine wpList_convV w rfl _ rfl _ _ _ rfl hrun ?_)
  go_loop [8] (fun i => ∃ k : Nat, k ≤ l.length ∧ i = .int .i64 k ∧ Hid ((l.take k).all nmB = true)) (fun i => l.length - (intOf i).toNat)
  case atStart => exact ⟨0, Nat.zero_le _, rfl, Lib.hid rfl⟩
  case round =>
    obtain ⟨k, hk, rfl, hall⟩ := hrel
    by_cases hlt : k < l.length
    · have hyes : Hid (nmB l[k] = true → (l.take (k + 1)).all nmB = true) := Lib.hid (fun h => by rw [all_take _ _ hlt _ (List.getElem?_eq_getElem hlt), hall.out, h]; rfl)
      have hno : Hid (nmB l[k] = false → N = false) := Lib.hid (fun h => by rw [HN.out]; exact all_no _ k _ (List.getElem?_eq_getElem hlt) h)
      have hc : W.cell? ⟨w.heap.size, k, none⟩ = some (.int .u8 (l[k].toNat : Int)) := by
        obtain ⟨a, ha, _, h⟩ := hR.cell k (.int .u8 (l[k].toNat : Int)) (by simp [bcells, hlt])
        cases ha; rw [addr_lit0] at h; exact h
      obtain ⟨cc, hcc⟩ : ∃ c, c = l[k] := ⟨_, rfl⟩
      rw [← hcc] at hc hyes hno
      have HCC := Lib.hid hcc
      clear hcc
      rcases nm_class cc with ⟨h1, h2, h3⟩ | ⟨h1, h3⟩ | ⟨h1, h2, h3⟩ | ⟨h1, h2, h3⟩ | ⟨h1, h3⟩ | ⟨h1, h2, h3⟩
      · have H3 := Lib.hid (hyes.out h3)
        clear h3 hyes hno
        go_wp2
        go_round
        case rel => exact ⟨k + 1, by omega, by go_num, H3⟩
        case measure => simp [intOf]; omega
      · have H3 := Lib.hid (hno.out h3)
        clear h3 hyes hno
        have d1 : decide ((cc.toNat : Int) ≤ 122) = false := by simp; omega
        have d2 : decide ((cc.toNat : Int) ≤ 57) = false := by simp; omega
        have e1 : (((cc.toNat : Nat) : Int) == 45) = false := by simp; omega
        have e2 : (((cc.toNat : Nat) : Int) != 45) = true := by simp; omega
        go_wp2
        go_ret
        exact ⟨by rw [H3.out]; rfl, hB⟩
      · have H3 := Lib.hid (hno.out h3)
        clear h3 hyes hno
        have d2 : decide ((cc.toNat : Int) ≤ 57) = false := by simp; omega
        have e1 : (((cc.toNat : Nat) : Int) == 45) = false := by simp; omega
        have e2 : (((cc.toNat : Nat) : Int) != 45) = true := by simp; omega
        go_wp2
        go_ret
        exact ⟨by rw [H3.out]; rfl, hB⟩
      · have H3 := Lib.hid (hyes.out h3)
        clear h3 hyes hno
        go_wp2
        go_round
        case rel => exact ⟨k + 1, by omega, by go_num, H3⟩
        case measure => simp [intOf]; omega
      · have H3 := Lib.hid (hyes.out h3)
        clear h3 hyes hno
        go_wp2
        go_round
        case rel => exact ⟨k + 1, by omega, by go_num, H3⟩
        case measure => simp [intOf]; omega
      · have H3 := Lib.hid (hno.out h3)
        clear h3 hyes hno
        have e1 : (((cc.toNat : Nat) : Int) == 45) = false := by simp; omega
        have e2 : (((cc.toNat : Nat) : Int) != 45) = true := by simp; omega
        go_wp2
        go_ret
        exact ⟨by rw [H3.out]; rfl, hB⟩
    · obtain rfl : k = l.length := by omega
      have HEh : Hid (∀ b : Bool, b = (decide (1 ≤ l.length) && decide (l.length ≤ 16)) → N = b) := Lib.hid fun b hb => by rw [HN.out]; exact name_end l hall.out b hb
      clear hall
      by_cases h0 : 1 ≤ l.length
      · have he : l.isEmpty = false := by cases l; simp at h0; rfl
        have he2 : l ≠ [] := by rintro rfl; simp at h0
        by_cases h16 : l.length ≤ 16
        · have hd : decide ((l.length : Int) ≤ 16) = true := by simp; omega
          go_wp2
          go_ret
          exact ⟨by rw [HEh.out true (by simp; omega)]; first | done | rfl, hB⟩
        · have hd : decide ((l.length : Int) ≤ 16) = false := by simp; omega
          go_wp2
          go_ret
          exact ⟨by rw [HEh.out false (by simp; omega)]; first | done | rfl, hB⟩
      · have he : l = [] := by cases l; rfl; simp at h0
        subst he
        go_wp2
        go_ret
        exact ⟨by rw [HEh.out false rfl]; first | done | rfl, hB⟩
end Go.Proofs.Ytnjfghlgknnhmaa
