/-
  Parts: MaG MaH MaI.
-/
import Derived.Test.YtpellkblaeeopaaGreatDoorC10
/-
  Walks: (*Mem).ask of both.
-/
namespace Go.Proofs.YtpellkblaeeopaaGreatDoor
open Go.RowKit

def askErr (ram : Sp) (a n : Nat) : Int := if 1048576 < n then 2 else if 0 < n ∧ (Sp.mk a n).within ram = false then 90 else 0
theorem ask_ok {ram : Sp} {a n : Nat} (h : askErr ram a n = 0) : n ≤ 1048576 ∧ (n = 0 ∨ (ram.base ≤ a ∧ a + n ≤ ram.base + ram.size ∧ a + n ≤ 18446744073709551616)) := by
  unfold askErr at h
  split at h
  · cases h
  · rename_i h1
    refine ⟨by omega, ?_⟩
    split at h
    · cases h
    · rename_i h2
      by_cases h0 : n = 0
      · exact .inl h0
      · right
        have hw : (Sp.mk a n).within ram = true := by
          cases hc : (Sp.mk a n).within ram with
          | true => rfl
          | false => exact absurd ⟨by omega, hc⟩ h2
        simp only [Sp.within, decide_eq_true_eq, Sp.good_iff] at hw
        omega
theorem run_sp (a n : Int) (w : World) : (Instr.build 25 #[(0, .int .u64 a), (1, .int .u64 n)]).run Tryz.prog w = .ok (.agg #[.int .u64 a, .int .u64 n]) w := by
  have := run_build_rows (P := Tryz.prog) w (t := 25) (z := #[.int .u64 0, .int .u64 0]) #[(0, .int .u64 a), (1, .int .u64 n)] [.int .u64 a, .int .u64 n] [(0, 1), (1, 1)]
    Tryz.underlying25 (by kernel_rfl) (by kernel_rfl) rfl (by simp [Rows1, Value.cells]) (by simp [flat, Value.cells])
  simpa [flat, Value.cells] using this
theorem pm_ram {w : World} {p : Nat} {ram : Sp} {v : Value} {t : TypeId} (h : Blk w p t #[.int .u64 (ram.base : Int), .int .u64 (ram.size : Int), v]) : w.rangeAt p 0 ram.cells.toList := by
  intro j v hv
  rw [Nat.zero_add, h.cell]
  match j, hv with
  | 0, hv => exact hv
  | 1, hv => exact hv

theorem mapNil (bm : Nat) (w : World) : (binOp .eql 70 (.map (some bm)) (.map none)).run Tryz.prog w = .ok (.bool false) w := by kernel_rfl
theorem pgEq (g : Nat) (w : World) : (binOp .eql 73 (pgV g) (.slice none 0 0)).run Tryz.prog w = .ok (.bool false) w := by kernel_rfl

set_option maxRecDepth 100000 in
set_option maxHeartbeats 1000000 in
theorem mask_any (p : Nat) (ram : Sp) (okr : ram.ok) (bm : Nat) (a n : Nat) (ha : a < 18446744073709551616) (hn : n < 18446744073709551616) (w : World) (hb : Blk w p 72 #[.int .u64 (ram.base : Int), .int .u64 (ram.size : Int), .map (some bm)]) :
    Calls Tryz.prog 50 #[.pointer (some ⟨p, 0, none⟩), .int .u64 (a : Int), .int .u64 (n : Int)] w fun e w' => e = .returned (.int .i64 (askErr ram a n)) ∧ Below w.heap.size w w' := by
  have c2 : w.cell? ⟨p, 2, none⟩ = some (.map (some bm)) := (hb.cell 2).trans rfl
  have hr := pm_ram hb
  have hmn := mapNil bm
  by_cases h1 : 1048576 < n
  · have he : Hid (askErr ram a n = 2) := Lib.hid (by rw [askErr, if_pos h1])
    have hd : decide ((1048576 : Int) < (n : Int)) = true := decide_eq_true (by omega)
    clear h1 hb
    go_enter Tryz.func50, Tryz.ntmps50
    go_wp2
    go_ret
    exact ⟨ret_int he.out.symm, Below.refl _ _⟩
  · have hd : decide ((1048576 : Int) < (n : Int)) = false := decide_eq_false (by omega)
    by_cases h0 : n = 0
    · subst h0
      have he : Hid (askErr ram a 0 = 0) := Lib.hid (by rw [askErr, if_neg h1, if_neg (by omega)])
      clear h1 hb hd
      go_enter Tryz.func50, Tryz.ntmps50
      go_wp2
      go_ret
      exact ⟨ret_int he.out.symm, Below.refl _ _⟩
    · have hpos : 0 < n := by omega
      have he : Hid (askErr ram a n = if (Sp.mk a n).within ram then 0 else 90) := Lib.hid (by
        rw [askErr, if_neg h1]
        cases (Sp.mk a n).within ram
        · rw [if_pos ⟨by omega, rfl⟩]; rfl
        · rw [if_neg (by simp)]; rfl)
      have hw := within_any ⟨a, n⟩ ram ⟨ha, hn⟩ okr w
      obtain ⟨q, hq⟩ : ∃ q, q = (Sp.mk a n).within ram := ⟨_, rfl⟩
      rw [← hq] at hw he
      clear h1 hb h0 hq
      have hd0 : decide ((0 : Int) < (n : Int)) = true := decide_eq_true (by omega)
      go_enter Tryz.func50, Tryz.ntmps50
      go_wp2_with (first
        | ((with_reducible refine at_load 25 ?_); refine wpList_load_midW rfl 25 _ rfl p 0 rfl ram.cells.toList _ hr Tryz.underlying25 rfl infSpan ?_)
        | ((with_reducible refine at_build 25 ?_); refine wpList_buildV _ rfl #[(0, .int .u64 (a : Int)), (1, .int .u64 (n : Int))] rfl (by simp [Act.eval]) (run_sp _ _ _) ?_))
      refine Calls.mono hw ?_
      rintro e w2 ⟨rfl, hB⟩
      clear hw hr c2
      cases q
      all_goals
        go_wp2
        go_ret
        exact ⟨ret_int he.out.symm, hB⟩
end Go.Proofs.YtpellkblaeeopaaGreatDoor
/-
  Walk: (*Mem).Read.
-/
namespace Go.Proofs.YtpellkblaeeopaaGreatDoor
open Go.RowKit

theorem el8m : Elem Tryz.prog 73 5 (.int .u8 0) 1 1 := Elem.of (by kernel_rfl) (by kernel_rfl) rfl (by omega)
theorem made_zero (n : Nat) : madeCells (Value.int .u8 0).cells (n * 1) = (bcells (List.replicate n 0)).toArray := by
  apply Array.ext
  · simp [madeCells, bcells]
  · intro k h1 h2
    simp only [madeCells, Array.getElem_map, Array.getElem_range, bcells, List.getElem_toArray, List.map_replicate, List.getElem_replicate]
    rw [show (Value.int IntKind.u8 0).cells.size = 1 from rfl, Nat.mod_one]; rfl
theorem run_slice_lhK {P : Program} (w : World) (t : TypeId) (ht : P.underlying t = some (.slice (P.elem t))) (hs : (P.info? (P.elem t)).map (·.size) = some 1) (b off n c f k : Nat) (kl kh : IntKind) (L H : Int) (hL : L = f) (hH : H = ((f + k : Nat) : Int)) (hf : f + k ≤ c) :
    (Instr.slice t (.slice (some ⟨b, off, none⟩) n c) (some (.int kl L)) (some (.int kh H)) none).run P w = .ok (.slice (some (if c = f then ⟨b, off, none⟩ else ⟨b, off + f, none⟩)) k (c - f)) w := by
  subst hL hH
  obtain ⟨inf, hinf, hsz⟩ := Option.map_eq_some_iff.1 hs
  rw [run_slice_lh w t _ n c ht kl kh (f : Int) ((f + k : Nat) : Int) (by omega) (by omega) (by omega)]
  have e1 : ((f + k : Nat) : Int).toNat = f + k := by omega
  have e2 : (f : Int).toNat = f := by omega
  have es : (sizeOf (P.elem t)).run P w = .ok 1 w := by simp [sizeOf, typeInfo, hinf, hsz]
  rw [e1, e2, es]
  simp only [Result.andThen, sliced, Option.map_some, Nat.mul_one, Addr.add]
  have e3 : f + k - f = k := by omega
  rw [e3]
  by_cases hc : c = f
  · rw [if_pos hc, if_pos hc]
  · rw [if_neg hc, if_neg hc]
    by_cases h0 : f = 0
    · simp [h0]
    · rw [if_neg h0]
theorem run_slice_loK {P : Program} (w : World) (t : TypeId) (ht : P.underlying t = some (.slice (P.elem t))) (hs : (P.info? (P.elem t)).map (·.size) = some 1) (b off n c f : Nat) (kl : IntKind) (L : Int) (hL : L = f) (hf : f ≤ n) :
    (Instr.slice t (.slice (some ⟨b, off, none⟩) n c) (some (.int kl L)) none none).run P w = .ok (.slice (some (if c = f then ⟨b, off, none⟩ else ⟨b, off + f, none⟩)) (n - f) (c - f)) w := by
  subst hL
  obtain ⟨inf, hinf, hsz⟩ := Option.map_eq_some_iff.1 hs
  rw [run_slice_l w t _ n c ht kl (f : Int) (by omega) (by omega)]
  have e2 : (f : Int).toNat = f := by omega
  have es : (sizeOf (P.elem t)).run P w = .ok 1 w := by simp [sizeOf, typeInfo, hinf, hsz]
  rw [e2, es]
  simp only [Result.andThen, sliced, Option.map_some, Nat.mul_one, Addr.add]
  by_cases hc : c = f
  · rw [if_pos hc, if_pos hc]
  · rw [if_neg hc, if_neg hc]
    by_cases h0 : f = 0
    · simp [h0]
    · rw [if_neg h0]

section
variable {P : Program} {o : Oper} {a : Act} {w : World} {t : TypeId} {x y z : Tmp} {v l h r : Value}
end

end Go.Proofs.YtpellkblaeeopaaGreatDoor
/-
  Walk: (*Mem).Write.
-/
namespace Go.Proofs.YtpellkblaeeopaaGreatDoor
open Go.RowKit

theorem rd_of_range {w : World} {b off B : Nat} {xs : List Value} (h : w.rangeAt b off xs) (hb : b < B) : Rd w B 1 (some ⟨b, off, none⟩) xs.length xs :=
  ⟨by simp, fun k v hv => ⟨_, rfl, hb, by rw [Addr.add_mid]; exact h k v hv⟩⟩
theorem range_chg {w w' : World} {b off : Nat} {xs : List Value} (h : w.rangeAt b off xs) (hb : w'.heap[b]? = w.heap[b]?) : w'.rangeAt b off xs := fun j v hv => (World.cell?_of_block hb).trans (h j v hv)
/-- a Mem behind a call that may have written it -/
def MAfter (w w' : World) (p : Nat) (ram : Sp) (m : Mm) (F : Nat → Prop) (N : Nat) : Prop := ∃ F', PMem w' p ram m F' N ∧ Chg F w w' ∧ (∀ b, F b → F' b) ∧ ∀ b, F' b → F b ∨ w.heap.size ≤ b
/-- .. and the memory's own block lies as it lay -/
def MAfterP (w w' : World) (p : Nat) (ram : Sp) (m : Mm) (F : Nat → Prop) (N : Nat) : Prop := MAfter w w' p ram m F N ∧ w'.heap[p]? = w.heap[p]?
def writeV (ram : Sp) (m : Mm) (a : Nat) (l : List UInt8) : Mm := if askErr ram a l.length = 0 then writeM m a l else m
theorem splice_bytes (L X : List UInt8) (o s : Nat) (_hs : s ≤ X.length) : splice (bcells L) o ((bcells X).take s) = bcells (L.take o ++ X.take s ++ L.drop (o + (X.take s).length)) := by
  have e : (bcells X).take s = bcells (X.take s) := by simp [bcells]
  rw [e, splice, bcells_length, bcells_append, bcells_append]
  simp [bcells, List.append_assoc]
theorem take_step (l : List UInt8) (j s : Nat) : l.take j ++ (l.drop j).take s = l.take (j + s) := by rw [List.take_add]
theorem wpList_copyG {P : Program} {ops : Array Oper} {rest : List Oper} {o : Oper} {a : Act} {Q : Exit → Act → World → Prop} (w : World) {dT sT e te : TypeId} (hu : P.underlying dT = some (.slice e)) (hsz : (P.info? e).map (·.size) = some 1) (hgd : o.guard = none) (d s : Operand)
    (ho : o.op = .call { callee := .builtin .copy, args := #[d, s], argTypes := #[dT, sT] })
    (g off dn dc : Nat) (L X : List UInt8) (hb : Blk w g te (bcells L).toArray) (hd : a.eval d = .slice (some ⟨g, off, none⟩) dn dc)
    (b o2 m c2 : Nat) (hx : a.eval s = .slice (some ⟨b, o2, none⟩) m c2) (hm : m = X.length) (hr : w.rangeAt b o2 (bcells X)) (hbl : b < w.heap.size)
    (k : Nat) (hk : k = Nat.min m dn) (hfit : off + k ≤ L.length)
    (h : ∀ w', Blk w' g te (bcells (L.take off ++ X.take k ++ L.drop (off + (X.take k).length))).toArray → w.grownBy w' (some g) → w'.heap.size = w.heap.size → wpList P ops Q rest (a.put o.dst (.int .i64 (k : Int))) w') :
    wpList P ops Q (o :: rest) a w := by
  have hR : Rd w w.heap.size 1 (some ⟨b, o2, none⟩) m (bcells X) := by
    have := rd_of_range hr hbl
    rwa [bcells_length, ← hm] at this
  refine wpList_copyAt w hu hsz hgd d s ho g off _ hb _ _ _ hd w.heap.size _ _ _ _ hx hR (bcells_one _) k hk (fun _ => rfl) (by rw [List.size_toArray, bcells_length]; exact hfit) ?_
  intro w' h1 h2 h3
  rw [List.toList_toArray, splice_bytes L X off k (by rw [hk, ← hm]; exact Nat.min_le_left _ _)] at h1
  exact h w' h1 h2 h3

theorem nilEq (w : World) : (binOp .eql 73 (.slice none 0 0) (.slice none 0 0)).run Tryz.prog w = .ok (.bool true) w := by kernel_rfl

set_option maxRecDepth 100000 in
set_option maxHeartbeats 1000000 in
theorem mwrite_p (p : Nat) (ram : Sp) (okr : ram.ok) (hr40 : ram.base + ram.size ≤ 1099511627776) (m : Mm) (F : Nat → Prop) (N : Nat) (ad : Nat) (A : Option Addr) (n c : Nat) (l : List UInt8) (had : ad < 18446744073709551616) (hl : n = l.length) (hnc : n ≤ c) (hc : c ≤ 9223372036854775807)
    (hN : N + n < maxLen) (w : World) (hR : Rd w w.heap.size 1 A n (bcells l)) (hfar : 0 < n → ∀ x, A = some x → ¬ F x.block) (hM : PMem w p ram m F N) :
    Calls Tryz.prog 18 #[.pointer (some ⟨p, 0, none⟩), .int .u64 (ad : Int), .slice A n c] w fun e w' => e = .returned (.int .i64 (askErr ram ad n)) ∧ MAfterP w w' p ram (writeV ram m ad l) F (N + n) := by
  obtain ⟨bm, D, pg, hP⟩ := hM
  have HBL := Lib.hid hP.blk
  have HN := Lib.hid hN
  have HL := Lib.hid hl
  clear hN hl
  have hcv : IntKind.u64.wrap (n : Int) = (n : Int) := IntWalk.u64_in _ (by omega)
  go_enter Tryz.func18, Tryz.ntmps18
  go_wp2_with fail
  refine (mask_any p ram okr bm ad n had (by omega) w hP.blk).mono ?_
  rintro e W1 ⟨rfl, B1⟩
  have hP1 := hP.below B1 (Nat.le_refl _)
  obtain ⟨E, hE⟩ : ∃ E, E = askErr ram ad n := ⟨_, rfl⟩
  rw [← hE]
  have C1 : Chg F w W1 := Chg.of_ext B1
  by_cases h0 : E = 0
  · have hV : Hid (writeV ram m ad l = writeM m ad l) := Lib.hid (by rw [writeV, ← HL.out, ← hE, if_pos h0])
    have HE := Lib.hid hE
    obtain ⟨hn1, hin⟩ := ask_ok (by rw [← hE]; exact h0)
    have hin : n = 0 ∨ ad + n ≤ 1099511627776 := by omega
    have HIN := Lib.hid hin
    have hsrc : Hid (0 < n → ∃ b off, A = some ⟨b, off, none⟩ ∧ b < w.heap.size ∧ ¬ F b ∧ w.rangeAt b off (bcells l)) := Lib.hid (fun h => by
      obtain ⟨b, off, rfl, h1, h2⟩ := hR.range (by omega)
      exact ⟨b, off, rfl, h1, hfar h _ rfl, h2⟩)
    subst h0
    clear hE hin hR hfar hcv
    go_wp2
    go_loopw [1, 2] (fun u v wr => ∃ j : Nat, j ≤ n ∧ u = .int .u64 ((ad + j : Nat) : Int) ∧ (∃ A', v = .slice A' (n - j) (c - j) ∧ (j < n → ∀ b off, A = some ⟨b, off, none⟩ → A' = some ⟨b, off + j, none⟩)) ∧
      ∃ F' D' pg' N', N' ≤ N + j ∧ PM wr p ram (writeM m ad (l.take j)) F' N' bm D' pg' ∧ Chg F w wr ∧ (∀ b, F b → F' b) ∧ ∀ b, F' b → F b ∨ w.heap.size ≤ b) (fun _ v _ => match v with | .slice _ k _ => k | _ => 0)
    case atStart => exact ⟨0, Nat.zero_le _, rfl, ⟨A, rfl, fun _ b off h => by rw [h]; rfl⟩, F, D, pg, N, Nat.le_refl _, by rw [List.take_zero, writeM_nil]; exact hP1, C1, fun _ h => h, fun _ h => .inl h⟩
    case round =>
      obtain ⟨j, hj, rfl, ⟨A', rfl, hA'⟩, F', D', pg', N', hN', hP3, hC, hF1, hF2⟩ := hrel
      by_cases hlt : j < n
      · have had2 : ad + n ≤ 1099511627776 := by have := HIN.out; omega
        obtain ⟨b0, off, rfl, hb0, hFb0, hrng⟩ := hsrc.out (by omega)
        have hA2 := hA' hlt b0 off rfl
        subst hA2
        obtain ⟨x, hx⟩ : ∃ x, x = ad + j := ⟨_, rfl⟩
        rw [← hx]
        obtain ⟨q, hq⟩ : ∃ q, q = x / 4096 := ⟨_, rfl⟩
        obtain ⟨o, ho⟩ : ∃ o, o = x % 4096 := ⟨_, rfl⟩
        obtain ⟨s, hs⟩ : ∃ s, s = Nat.min (n - j) (4096 - o) := ⟨_, rfl⟩
        have hs' : s ≤ n - j ∧ s ≤ 4096 - o ∧ 1 ≤ s := by
          have : Nat.min (n - j) (4096 - o) = min (n - j) (4096 - o) := rfl
          rw [this] at hs; omega
        have hq64 : q < 18446744073709551616 := by omega
        have hq52 : q < 4503599627370496 := by omega
        have ho4 : o < 4096 := by omega
        have hxq : x = 4096 * q + o := by omega
        have hx2 : (x : Int) % 4096 = (o : Int) := by omega
        have hx3 : (x : Int) / 4096 = (q : Int) := by omega
        have hx4 : IntKind.u64.wrap ((x : Int) + (s : Int)) = ((x + s : Nat) : Int) := by rw [IntWalk.u64_in _ (by omega)]; omega
        have hx5 : IntKind.u64.wrap (s : Int) = (s : Int) := IntWalk.u64_in _ (by omega)
        have hlk := hP3.look q hq64
        have c2 : wr.cell? ⟨p, 2, none⟩ = some (.map (some bm)) := (hP3.blk.cell 2).trans rfl
        obtain ⟨A2, hA2⟩ : ∃ A2 : Addr, A2 = if c - j = s then ⟨b0, off + j, none⟩ else ⟨b0, off + j + s, none⟩ := ⟨_, rfl⟩
        have hsl := fun W => run_slice_loK (P := Tryz.prog) W 73 (by kernel_rfl) (by kernel_rfl) b0 (off + j) (n - j) (c - j) s .i64 (s : Int) rfl hs'.1
        rw [← hA2] at hsl
        have hA3 : Hid (j + s < n → A2 = ⟨b0, off + (j + s), none⟩) := Lib.hid (fun h => by rw [hA2, if_neg (by omega), Nat.add_assoc])
        have HX := Lib.hid hx
        have HXQ := Lib.hid hxq
        have HS := Lib.hid hs
        have hnj : 0 < n - j := by omega
        have hdr : n - j = (l.drop j).length := by rw [List.length_drop, ← HL.out]
        have HD := Lib.hid hdr
        have hb0r : b0 < wr.heap.size := Nat.lt_of_lt_of_le hb0 hC.size
        have hrr : wr.rangeAt b0 (off + j) (bcells (l.drop j)) := by
          have h1 := range_chg hrng (hC.block b0 hb0 hFb0)
          intro i v hv
          have e : (bcells (l.drop j))[i]? = (bcells l)[j + i]? := by simp [bcells]
          rw [e] at hv
          have := h1 (j + i) v hv
          rwa [← Nat.add_assoc] at this
        have hFb : ¬ F' b0 := fun h => by
          rcases hF2 b0 h with h1 | h1
          · exact hFb0 h1
          · omega
        have hend : ∀ g W W3 D2 pg2 N2 F2, pg2 q = some g → PM W p ram (writeM m ad (l.take j)) F2 N2 bm D2 pg2 → Chg F w W → W.grownBy W3 (some g) → (∀ b, F b → F2 b) → (∀ b, F2 b → F b ∨ w.heap.size ≤ b) →
            Blk W3 g 5 (bcells ((pageOf (writeM m ad (l.take j)) q).take o ++ (l.drop j).take s ++ (pageOf (writeM m ad (l.take j)) q).drop (o + ((l.drop j).take s).length))).toArray →
            PM W3 p ram (writeM m ad (l.take (j + s))) F2 N2 bm D2 pg2 ∧ Chg F w W3 := by
          intro g W W3 D2 pg2 N2 F2 h1 h2 h3 h4 h5 h6 h7
          have e1 : ((l.drop j).take s).length = s := by rw [List.length_take, ← HD.out]; omega
          have h8 := h2.put h1 (by rw [e1]; omega) h4 h7
          rw [← HXQ.out, HX.out] at h8
          have e2 : ad + j = ad + (l.take j).length := by rw [List.length_take, ← HL.out]; omega
          rw [e2, writeM_append, take_step] at h8
          have hFg := (h2.rows q g h1).2.1
          refine ⟨h8, h4.os.trans h3.os, h4.tape.trans h3.tape, h4.output.trans h3.output, Nat.le_trans h3.size h4.size, fun k hk hnF => (h4.block k (Nat.lt_of_lt_of_le hk h3.size) (fun e => ?_)).trans (h3.block k hk hnF)⟩
          cases e
          rcases h6 _ hFg with h9 | h9
          · exact hnF h9
          · omega
        have hmk : ∀ w1 w2, Below wr.heap.size wr w1 → w1.grownBy w2 (some bm) → Chg F w w2 ∧ (∀ b, (F' b ∨ b = wr.heap.size) → F b ∨ w.heap.size ≤ b) ∧ w2.heap[b0]? = wr.heap[b0]? ∧ wr.heap.size ≤ w2.heap.size := fun w1 w2 h1 h2 => by
          have hFm : F bm ∨ w.heap.size ≤ bm := hF2 _ hP3.fm
          refine ⟨⟨h2.os.trans (h1.os.trans hC.os), h2.tape.trans (h1.tape.trans hC.tape), h2.output.trans (h1.output.trans hC.output), Nat.le_trans hC.size (Nat.le_trans h1.size h2.size), fun k hk hnF => ?_⟩, ?_, ?_, Nat.le_trans h1.size h2.size⟩
          · refine ((h2.block k (Nat.lt_of_lt_of_le hk (Nat.le_trans hC.size h1.size)) (fun e => ?_)).trans (h1.block k (Nat.lt_of_lt_of_le hk hC.size))).trans (hC.block k hk hnF)
            cases e
            rcases hFm with h3 | h3
            · exact hnF h3
            · omega
          · rintro b (h3 | rfl)
            · exact hF2 b h3
            · exact .inr hC.size
          · refine (h2.block b0 (Nat.lt_of_lt_of_le hb0r h1.size) (fun e => hFb ?_)).trans (h1.block b0 hb0r)
            cases e; exact hP3.fm
        have hN'l : Hid (N' < maxLen) := Lib.hid (by have := HN.out; omega)
        clear hrng hA' hA2 hx hq ho hs hxq hdr had2
        cases hpg : pg' q with
        | some g =>
          rw [hpg] at hlk
          have hrow := (hP3.rows q g hpg).1
          have hpe := pgEq g
          have hE2 := fun w3 => hend g wr w3 D' pg' N' F' hpg hP3 hC
          unfold pgV at hlk hpe
          clear hend hpg
          go_wp2_with ((with_reducible refine at_copy ?_); refine wpList_copyG wr Tryz.underlying73 (by kernel_rfl) rfl _ _ rfl g o (4096 - o) (4096 - o) _ (l.drop j) hrow rfl b0 (off + j) (n - j) (c - j) rfl HD.out hrr hb0r s HS.out (by rw [pageOf_length]; omega) ?_; intro w3 hb3 hg3 hs3; obtain ⟨hP4, hC4⟩ := hE2 w3 hg3 hF1 hF2 hb3)
          go_roundw
          case rel => exact ⟨j + s, by omega, congrArg (Value.int .u64) (by have := HX.out; omega), ⟨some A2, by rw [Nat.sub_sub, Nat.sub_sub], fun hjs b off' h => by cases h; rw [hA3.out hjs]⟩, F', D', pg', N', by omega, hP4, hC4, hF1, hF2⟩
          case measure => show n - j - s < n - j; omega
        | none =>
          rw [hpg] at hlk
          have HPG := Lib.hid hpg
          have hnn := nilEq
          clear hpg
          go_wp2_with (first
            | (at_make; refine wpList_makeN wr el8m rfl _ _ rfl .i64 .i64 _ _ 4096 4096 rfl rfl rfl rfl (by omega) (by omega) (by omega) ?_; intro w1 hb1 hs1 hB1; rw [made_zero] at hb1; have hP5 := hP3.below hB1 (Nat.le_refl _); obtain ⟨w2, D2, hrun, hgr, hP6⟩ := hP5.make q wr.heap.size hq52 hN'l.out HPG.out hb1 (fun h => Nat.lt_irrefl _ (hP3.flt _ h)); unfold pgV at hrun; have c3 : w1.cell? ⟨p, 2, none⟩ = some (.map (some bm)) := (hP5.blk.cell 2).trans rfl; have hrow := (hP6.rows q wr.heap.size (by simp)).1; have hfin := hmk w1 w2 hB1 hgr)
            | ((with_reducible refine at_copy ?_); refine wpList_copyG w2 Tryz.underlying73 (by kernel_rfl) rfl _ _ rfl wr.heap.size o (4096 - o) (4096 - o) _ (l.drop j) hrow rfl b0 (off + j) (n - j) (c - j) rfl HD.out (range_chg hrr hfin.2.2.1) (Nat.lt_of_lt_of_le hb0r hfin.2.2.2) s HS.out (by rw [pageOf_length]; omega) ?_; intro w3 hb3 hg3 hs3; obtain ⟨hP4, hC4⟩ := hend wr.heap.size w2 w3 D2 _ (N' + 1) _ (by simp) hP6 hfin.1 hg3 (fun b h => .inl (hF1 b h)) hfin.2.1 hb3))
          go_roundw
          case rel => exact ⟨j + s, by omega, congrArg (Value.int .u64) (by have := HX.out; omega), ⟨some A2, by rw [Nat.sub_sub, Nat.sub_sub], fun hjs b off' h => by cases h; rw [hA3.out hjs]⟩, _, D2, _, N' + 1, by omega, hP4, hC4, fun b h => .inl (hF1 b h), hfin.2.1⟩
          case measure => show n - j - s < n - j; omega
      · obtain rfl : j = n := by omega
        go_wp2
        go_ret
        refine ⟨ret_int HE.out, ⟨F', ?_, hC, hF1, hF2⟩, Eq.trans hP3.blk (Eq.symm HBL.out)⟩
        rw [List.take_of_length_le (by rw [HL.out]; exact Nat.le_refl _)] at hP3
        rw [hV.out]
        exact ⟨bm, D', pg', hP3.more hN'⟩
  · have hV : Hid (writeV ram m ad l = m) := Lib.hid (by rw [writeV, ← HL.out, ← hE, if_neg h0])
    have hne : (E != 0) = true := by simpa using h0
    have HE := Lib.hid hE
    clear hE h0 hP hcv
    go_wp2
    go_ret
    refine ⟨ret_int HE.out, ⟨F, ?_, C1, fun _ h => h, fun _ h => .inl h⟩, Eq.trans hP1.blk (Eq.symm HBL.out)⟩
    rw [hV.out]
    exact ⟨bm, D, pg, hP1.more (by omega)⟩
theorem mwrite_any (p : Nat) (ram : Sp) (okr : ram.ok) (hr40 : ram.base + ram.size ≤ 1099511627776) (m : Mm) (F : Nat → Prop) (N : Nat) (ad : Nat) (A : Option Addr) (n c : Nat) (l : List UInt8) (had : ad < 18446744073709551616) (hl : n = l.length) (hnc : n ≤ c) (hc : c ≤ 9223372036854775807)
    (hN : N + n < maxLen) (w : World) (hR : Rd w w.heap.size 1 A n (bcells l)) (hfar : 0 < n → ∀ x, A = some x → ¬ F x.block) (hM : PMem w p ram m F N) :
    Calls Tryz.prog 18 #[.pointer (some ⟨p, 0, none⟩), .int .u64 (ad : Int), .slice A n c] w fun e w' => e = .returned (.int .i64 (askErr ram ad n)) ∧ MAfter w w' p ram (writeV ram m ad l) F (N + n) :=
  (mwrite_p p ram okr hr40 m F N ad A n c l had hl hnc hc hN w hR hfar hM).mono fun _ _ h => ⟨h.1, h.2.1⟩
end Go.Proofs.YtpellkblaeeopaaGreatDoor
