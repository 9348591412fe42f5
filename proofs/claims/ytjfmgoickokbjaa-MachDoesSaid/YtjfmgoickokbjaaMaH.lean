/-
  Walk: (*Mem).Read.
-/
import Derived.Test.YtjfmgoickokbjaaMaG
namespace Go.Proofs.Ytjfmgoickokbjaa
open Go.RowKit

theorem el8m : Elem Try.prog 26 5 (.int .u8 0) 1 1 := Elem.of (by kernel_rfl) (by kernel_rfl) rfl (by omega)
theorem made_zero (n : Nat) : madeCells (Value.int .u8 0).cells (n * 1) = (bcells (List.replicate n 0)).toArray := by
  apply Array.ext
  · simp [madeCells, bcells]
  · intro k h1 h2
    simp only [madeCells, Array.getElem_map, Array.getElem_range, bcells, List.getElem_toArray, List.map_replicate, List.getElem_replicate]
    rw [show (Value.int IntKind.u8 0).cells.size = 1 from rfl, Nat.mod_one]; rfl
def BErr (w : World) (L : List UInt8) (x : Int) (e : Ending) (w' : World) : Prop := ∃ A c, e = .returned (.tuple #[.slice A L.length c, .int .i64 x]) ∧ L.length ≤ c ∧ Rd w' w'.heap.size 1 A L.length (bcells L) ∧ Below w.heap.size w w'
/-- .. and the slice is new -/
def BErrN (w : World) (L : List UInt8) (x : Int) (e : Ending) (w' : World) : Prop := ∃ A c, e = .returned (.tuple #[.slice A L.length c, .int .i64 x]) ∧ L.length ≤ c ∧ Rd w' w'.heap.size 1 A L.length (bcells L) ∧ Below w.heap.size w w' ∧ ∀ y, A = some y → w.heap.size ≤ y.block
def readV (ram : Sp) (m : Mm) (a n : Nat) : List UInt8 := if askErr ram a n = 0 then readM m a n else []
theorem run_slice_lhK {P : Program} (w : World) (t : TypeId) (ht : P.underlying t = some (.slice (P.elem t))) (hs : (P.info? (P.elem t)).map (·.size) = some 1) (b off n c f k : Nat) (kl kh : IntKind) (L H : Int) (hL : L = f) (hH : H = ((f + k : Nat) : Int)) (hf : f + k ≤ c) :
    (Instr.slice t (.slice (some ⟨b, off, none⟩) n c) (some (.int kl L)) (some (.int kh H)) none).run P w = .ok (.slice (some (if c = f then ⟨b, off, none⟩ else ⟨b, off + f, none⟩)) k (c - f)) w := by
  subst hL hH
  obtain ⟨inf, hinf, hsz⟩ := Option.map_eq_some_iff.1 hs
  rw [run_slice_lh w t _ n c ht kl kh (f : Int) ((f + k : Nat) : Int) (by omega) (by omega) (by omega)]
  have e1 : ((f + k : Nat) : Int).toNat = f + k := by omega
  have e2 : (f : Int).toNat = f := by omega
  have es : (sizeOf (P.elem t)).run P w = .ok 1 w := by simp [sizeOf, typeInfo, hinf, hsz]
  rw [e1, e2, es]
  simp only [Result.andThen, sliced, Option.map_some, Nat.mul_one, Addr.add]
  have e3 : f + k - f = k := by omega
  rw [e3]
  by_cases hc : c = f
  · rw [if_pos hc, if_pos hc]
  · rw [if_neg hc, if_neg hc]
    by_cases h0 : f = 0
    · simp [h0]
    · rw [if_neg h0]
theorem run_slice_loK {P : Program} (w : World) (t : TypeId) (ht : P.underlying t = some (.slice (P.elem t))) (hs : (P.info? (P.elem t)).map (·.size) = some 1) (b off n c f : Nat) (kl : IntKind) (L : Int) (hL : L = f) (hf : f ≤ n) :
    (Instr.slice t (.slice (some ⟨b, off, none⟩) n c) (some (.int kl L)) none none).run P w = .ok (.slice (some (if c = f then ⟨b, off, none⟩ else ⟨b, off + f, none⟩)) (n - f) (c - f)) w := by
  subst hL
  obtain ⟨inf, hinf, hsz⟩ := Option.map_eq_some_iff.1 hs
  rw [run_slice_l w t _ n c ht kl (f : Int) (by omega) (by omega)]
  have e2 : (f : Int).toNat = f := by omega
  have es : (sizeOf (P.elem t)).run P w = .ok 1 w := by simp [sizeOf, typeInfo, hinf, hsz]
  rw [e2, es]
  simp only [Result.andThen, sliced, Option.map_some, Nat.mul_one, Addr.add]
  by_cases hc : c = f
  · rw [if_pos hc, if_pos hc]
  · rw [if_neg hc, if_neg hc]
    by_cases h0 : f = 0
    · simp [h0]
    · rw [if_neg h0]

theorem readM_add (m : Mm) (a k s : Nat) : readM m a (k + s) = readM m a k ++ readM m (a + k) s := by
  apply List.ext_getElem?
  intro i
  by_cases h1 : i < k
  · rw [List.getElem?_append_left (by rw [readM_length]; exact h1), readM_get _ _ _ _ h1, readM_get _ _ _ _ (by omega)]
  · rw [List.getElem?_append_right (by rw [readM_length]; omega), readM_length]
    by_cases h2 : i < k + s
    · rw [readM_get _ _ _ _ h2, readM_get _ _ _ _ (by omega), show a + k + (i - k) = a + i by omega]
    · rw [List.getElem?_eq_none (by rw [readM_length]; omega), List.getElem?_eq_none (by rw [readM_length]; omega)]
theorem readM_page (m : Mm) (x q o s : Nat) (hx : x = 4096 * q + o) (hs : o + s ≤ 4096) : readM m x s = ((pageOf m q).drop o).take s := by
  apply List.ext_getElem?
  intro i
  by_cases h : i < s
  · rw [readM_get _ _ _ _ h, List.getElem?_take, if_pos h, List.getElem?_drop, pageOf_get _ _ _ (by omega), hx, Nat.add_assoc]
  · rw [List.getElem?_eq_none (by rw [readM_length]; omega), List.getElem?_take, if_neg h]
theorem readM_zero (m : Mm) (x s : Nat) (h : ∀ i, i < s → m (x + i) = 0) : readM m x s = List.replicate s 0 := by
  apply List.ext_getElem?
  intro i
  by_cases hi : i < s
  · rw [readM_get _ _ _ _ hi, h i hi, List.getElem?_replicate, if_pos hi]
  · rw [List.getElem?_eq_none (by rw [readM_length]; omega), List.getElem?_eq_none (by rw [List.length_replicate]; omega)]
theorem rep_split (n k s : Nat) (h : k + s ≤ n) : List.replicate (n - k) (0 : UInt8) = List.replicate s 0 ++ List.replicate (n - (k + s)) 0 := by
  rw [List.replicate_append_replicate]; congr 1; omega
theorem read_skip (m : Mm) (a n k s : Nat) (h : k + s ≤ n) (hz : ∀ i, i < s → m (a + k + i) = 0) : readM m a k ++ List.replicate (n - k) 0 = readM m a (k + s) ++ List.replicate (n - (k + s)) 0 := by
  rw [readM_add, readM_zero m (a + k) s hz, rep_split n k s h, List.append_assoc]
theorem read_step (m : Mm) (a n k s q o : Nat) (h : k + s ≤ n) (hx : a + k = 4096 * q + o) (hs : o + s ≤ 4096) :
    splice (bcells (readM m a k ++ List.replicate (n - k) 0)) k ((bcells ((pageOf m q).drop o)).take s) = bcells (readM m a (k + s) ++ List.replicate (n - (k + s)) 0) := by
  have e0 : (bcells ((pageOf m q).drop o)).take s = bcells (readM m (a + k) s) := by rw [readM_page m (a + k) q o s hx hs]; simp [bcells]
  have l1 : (bcells (readM m a k)).length = k := by rw [bcells_length, readM_length]
  have l2 : (bcells (readM m (a + k) s)).length = s := by rw [bcells_length, readM_length]
  have l3 : (bcells (readM m a k ++ List.replicate s 0)).length = k + s := by rw [bcells_length, List.length_append, readM_length, List.length_replicate]
  have e1 : bcells (readM m a k ++ List.replicate (n - k) 0) = bcells (readM m a k) ++ bcells (List.replicate (n - k) 0) := bcells_append _ _
  have e2 : bcells (readM m a k ++ List.replicate (n - k) 0) = bcells (readM m a k ++ List.replicate s 0) ++ bcells (List.replicate (n - (k + s)) 0) := by
    rw [rep_split n k s h, ← List.append_assoc, bcells_append]
  have t1 : (bcells (readM m a k ++ List.replicate (n - k) 0)).take k = bcells (readM m a k) := by rw [e1, List.take_left' l1]
  have t2 : (bcells (readM m a k ++ List.replicate (n - k) 0)).drop (k + s) = bcells (List.replicate (n - (k + s)) 0) := by rw [e2, List.drop_left' l3]
  rw [e0, splice, l2, t1, t2, readM_add, bcells_append, bcells_append, List.append_assoc]

section
variable {P : Program} {o : Oper} {a : Act} {w : World} {t : TypeId} {x y z : Tmp} {v l h r : Value}
theorem reg_sliceLH (ht : P.underlying t = some (.slice (P.elem t))) (ho : o.op = .slice t (.tmp x) (some (.tmp y)) (some (.tmp z)) none) (hx : a.tmps[x]?.getD undef = v) (hy : a.tmps[y]?.getD undef = l) (hz : a.tmps[z]?.getD undef = h)
    (hq : (Instr.slice t v (some l) (some h) none).run P w = .ok r w) : (execOp a.eval o).run P w = .ok (.value r) w := by
  simp [execOp, ho, Act.eval, hx, hy, hz, run_sliceAt_slice _ _ _ _ _ _ ht, hq]
theorem reg_sliceL (ht : P.underlying t = some (.slice (P.elem t))) (ho : o.op = .slice t (.tmp x) (some (.tmp y)) none none) (hx : a.tmps[x]?.getD undef = v) (hy : a.tmps[y]?.getD undef = l)
    (hq : (Instr.slice t v (some l) none none).run P w = .ok r w) : (execOp a.eval o).run P w = .ok (.value r) w := by
  simp [execOp, ho, Act.eval, hx, hy, run_sliceAt_slice _ _ _ _ _ _ ht, hq]
end

set_option maxRecDepth 100000 in
set_option maxHeartbeats 4000000 in
theorem mread_any (p : Nat) (ram : Sp) (okr : ram.ok) (m : Mm) (F : Nat → Prop) (N : Nat) (ad n : Nat) (ha : ad < 18446744073709551616) (hn : n < 18446744073709551616) (w : World) (hM : PMem w p ram m F N) :
    Calls Try.prog 13 #[.pointer (some ⟨p, 0, none⟩), .int .u64 (ad : Int), .int .u64 (n : Int)] w (BErrN w (readV ram m ad n) (askErr ram ad n)) := by
  obtain ⟨bm, D, pg, hP⟩ := hM
  go_enter Try.func13, Try.ntmps13
  go_wp2_with fail
  refine (mask_any p ram okr bm ad n ha hn w hP.blk).mono ?_
  rintro e W1 ⟨rfl, B1⟩
  have hP1 := hP.below B1 (Nat.le_refl _)
  have hFlt : ∀ b, F b → b < w.heap.size := hP.flt
  obtain ⟨E, hE⟩ : ∃ E, E = askErr ram ad n := ⟨_, rfl⟩
  rw [← hE]
  by_cases h0 : E = 0
  · have hL : Hid (readV ram m ad n = readM m ad n) := Lib.hid (by rw [readV, ← hE, if_pos h0])
    have HE := Lib.hid hE
    obtain ⟨hn1, hin⟩ := ask_ok (by rw [← hE]; exact h0)
    have HIN := Lib.hid hin
    subst h0
    clear hE hP hin
    go_wp2_with (at_make; refine wpList_makeN W1 el8m rfl _ _ rfl .u64 .u64 _ _ n n rfl rfl rfl rfl (by omega) (by omega) (by omega) ?_; intro w1 hb1 hs1 hB1)
    rw [made_zero] at hb1
    have hP2 := hP1.below hB1 (Nat.le_refl _)
    have B2 := B1.trans (hB1.mono B1.size)
    have hg : w.heap.size ≤ W1.heap.size := B1.size
    have hFg : ¬ F W1.heap.size := fun h => Nat.lt_irrefl _ (hP1.flt _ h)
    generalize W1.heap.size = g at *
    clear B1 hP1 hs1 hB1
    go_loopw [10] (fun v wr => ∃ k : Nat, k ≤ n ∧ v = .int .u64 k ∧ Blk wr g 5 (bcells (readM m ad k ++ List.replicate (n - k) 0)).toArray ∧ Below w.heap.size w wr ∧ PM wr p ram m F N bm D pg) (fun v _ => n - (intOf v).toNat)
    case atStart => exact ⟨0, Nat.zero_le _, rfl, by simpa [readM] using hb1, B2, hP2⟩
    case round =>
      obtain ⟨k, hk, rfl, hb, hB, hP3⟩ := hrel
      by_cases hlt : k < n
      · have hin2 : ad + n ≤ 18446744073709551616 := by have := HIN.out; omega
        obtain ⟨x, hx⟩ : ∃ x, x = ad + k := ⟨_, rfl⟩
        obtain ⟨q, hq⟩ : ∃ q, q = x / 4096 := ⟨_, rfl⟩
        obtain ⟨o, ho⟩ : ∃ o, o = x % 4096 := ⟨_, rfl⟩
        obtain ⟨y, hy⟩ : ∃ y, y = 4096 - o := ⟨_, rfl⟩
        obtain ⟨z, hz⟩ : ∃ z, z = n - k := ⟨_, rfl⟩
        have hq64 : q < 18446744073709551616 := by omega
        have ho4 : o < 4096 := by omega
        have hxq : ad + k = 4096 * q + o := by omega
        have hx1 : IntKind.u64.wrap ((ad : Int) + (k : Int)) = (x : Int) := by rw [IntWalk.u64_in _ (by omega)]; omega
        have hx2 : (x : Int) % 4096 = (o : Int) := by omega
        have hx3 : (x : Int) / 4096 = (q : Int) := by omega
        have hy1 : (4096 : Int) - (o : Int) = (y : Int) := by omega
        have hz1 : (n : Int) - (k : Int) = (z : Int) := by omega
        have hlk := hP3.look q hq64
        have c2 : wr.cell? ⟨p, 2, none⟩ = some (.map (some bm)) := (hP3.blk.cell 2).trans rfl
        have hcase : ∃ s : Nat, ((y < z ∧ s = y) ∨ (z ≤ y ∧ s = z)) ∧ 1 ≤ s ∧ k + s ≤ n ∧ o + s ≤ 4096 := by
          rcases Nat.lt_or_ge y z with h1 | h1
          · exact ⟨y, .inl ⟨h1, rfl⟩, by omega, by omega, by omega⟩
          · exact ⟨z, .inr ⟨h1, rfl⟩, by omega, by omega, by omega⟩
        obtain ⟨s, hcs, hs1, hkn, hos⟩ := hcase
        have hks : IntKind.u64.wrap ((k : Int) + (s : Int)) = ((k + s : Nat) : Int) := by rw [IntWalk.u64_in _ (by omega)]; omega
        have HXQ := Lib.hid hxq
        clear hx hq ho hy hz hin2 hxq
        cases hpg : pg q with
        | none =>
          rw [hpg] at hlk
          have hzz : Hid (∀ i, i < s → m (ad + k + i) = 0) := Lib.hid (fun i hi => by rw [HXQ.out, Nat.add_assoc]; exact hP3.zero q hpg (o + i) (by omega))
          clear hpg
          rcases hcs with ⟨hyz, rfl⟩ | ⟨hyz, rfl⟩
          all_goals
            go_wp2
            go_roundw
            case rel => exact ⟨_, hkn, by first | rfl | go_num, by rw [← read_skip m ad n k _ hkn hzz.out]; exact hb, hB, hP3⟩
            case measure => simp [intOf]; omega
        | some g2 =>
          rw [hpg] at hlk
          have hrow := hP3.rows q g2 hpg
          have hgg : ¬ g2 = g := fun e => hFg (e ▸ hrow.2.1)
          have hne := pgNe g2
          unfold pgV at hlk hne
          clear hpg
          rcases hcs with ⟨hyz, hsy⟩ | ⟨hyz, hsy⟩
          all_goals
            subst hsy
            rename_i s
            go_wp2
            refine Flow.wp_region_flow (w.heap.size) [(10, fun b => b = g)] [(10, fun W => Blk W g 5 ((bcells (readM m ad k ++ List.replicate (n - k) 0)).toArray)), (10, fun W => Blk W g2 5 ((bcells (pageOf m q)).toArray))] (by kernel_rfl) (by kernel_rfl) hB.drew.size (Flow.nz_cons (by rintro b rfl; exact hg) Flow.nz_nil) (Flow.facts_cons (hb.drew) (Flow.kept_blk id) (Flow.fz_cons (Flow.no_follow (by kernel_rfl)) Flow.fz_nil) (Flow.facts_cons (hrow.1.drew) (Flow.kept_blk id) (Flow.fz_cons (Flow.no_follow (by kernel_rfl)) Flow.fz_nil) Flow.facts_nil)) ?_
            refine Flow.pass_old (X := .slice (some ⟨g, 0, none⟩) n n) 9 (Flow.met_none rfl) (.inl rfl) (by kernel_rfl) (by kernel_rfl) rfl ?_
            refine Flow.pass_old (X := .int .u64 (k : Int)) 10 (Flow.met_none rfl) (.inl rfl) (by kernel_rfl) (by kernel_rfl) rfl ?_
            refine Flow.pass_old (X := .int .u64 (k : Int)) 10 (Flow.met_none rfl) (.inl rfl) (by kernel_rfl) (by kernel_rfl) rfl ?_
            refine Flow.pass_old (X := .int .u64 (s : Int)) 12 (Flow.met_none rfl) (.inl rfl) (by kernel_rfl) (by kernel_rfl) rfl ?_
            refine Flow.pass_val (.int .u64 ((k + s : Nat) : Int)) (Flow.met_none rfl) (fun a W hH => ?_) ?_
            · have e0 := Flow.see_new 47 2 hH.sees (by kernel_rfl) (by kernel_rfl) rfl rfl
              have e1 := Flow.see_new 48 3 hH.sees (by kernel_rfl) (by kernel_rfl) rfl rfl
              go_simp; first | done | rfl | (rw [hks]; done)
            refine Flow.pass_val (.slice (some (if n = k then ⟨g, 0, none⟩ else ⟨g, 0 + k, none⟩)) s (n - k)) (Flow.met_none rfl) (fun a W hH => ?_) ?_
            · have e0 := Flow.see_new 45 0 hH.sees (by kernel_rfl) (by kernel_rfl) rfl rfl
              have e1 := Flow.see_new 46 1 hH.sees (by kernel_rfl) (by kernel_rfl) rfl rfl
              have e2 := Flow.see_new 49 4 hH.sees (by kernel_rfl) (by kernel_rfl) rfl rfl
              have hq := run_slice_lhK (P := Try.prog) W 26 (by kernel_rfl) (by kernel_rfl) g 0 n n k s .u64 .u64 (k : Int) ((k + s : Nat) : Int) rfl rfl hkn; exact reg_sliceLH (by kernel_rfl) rfl e0 e1 e2 hq
            refine Flow.pass_old (X := .slice (some ⟨g2, 0, none⟩) 4096 4096) 13 (Flow.met_none rfl) (.inl rfl) (by kernel_rfl) (by kernel_rfl) rfl ?_
            refine Flow.pass_old (X := .int .u64 (x : Int)) 11 (Flow.met_none rfl) (.inl rfl) (by kernel_rfl) (by kernel_rfl) rfl ?_
            refine Flow.pass_val (.int .u64 (o : Int)) (Flow.met_none rfl) (fun a W hH => ?_) ?_
            · have e0 := Flow.see_new 52 7 hH.sees (by kernel_rfl) (by kernel_rfl) rfl rfl
              go_simp; first | done | rfl | omega | (rw [Int.tmod_eq_emod_of_nonneg (by omega)]; omega)
            refine Flow.pass_val (.slice (some (if 4096 = o then ⟨g2, 0, none⟩ else ⟨g2, 0 + o, none⟩)) (4096 - o) (4096 - o)) (Flow.met_none rfl) (fun a W hH => ?_) ?_
            · have e0 := Flow.see_new 51 6 hH.sees (by kernel_rfl) (by kernel_rfl) rfl rfl
              have e1 := Flow.see_new 53 8 hH.sees (by kernel_rfl) (by kernel_rfl) rfl rfl
              have hq := run_slice_loK (P := Try.prog) W 26 (by kernel_rfl) (by kernel_rfl) g2 0 4096 4096 o .u64 (o : Int) rfl (by omega); exact reg_sliceL (by kernel_rfl) rfl e0 e1 hq
            refine Flow.pass_list (fun _ W => Blk W g 5 (bcells (readM m ad (k + s) ++ List.replicate (n - (k + s)) 0)).toArray) (Flow.kept_of (fun _ _ _ c h => h.chg c id) (Flow.kz_cons (Flow.no_follow (by kernel_rfl)) Flow.kz_nil)) (Flow.met_none rfl) (fun a W hH => ?_) ?_
            · have e0 := Flow.see_new 50 5 hH.sees (by kernel_rfl) (by kernel_rfl) rfl rfl
              have e1 := Flow.see_new 54 9 hH.sees (by kernel_rfl) (by kernel_rfl) rfl rfl
              have fa0 : (fun W => Blk W g 5 ((bcells (readM m ad k ++ List.replicate (n - k) 0)).toArray)) W := hH.fact _ (List.mem_of_getElem? (i := 0) rfl) rfl
              have fa1 : (fun W => Blk W g2 5 ((bcells (pageOf m q)).toArray)) W := hH.fact _ (List.mem_of_getElem? (i := 1) rfl) rfl
              rw [if_neg (by omega), Nat.zero_add] at e0 e1
              have hrd := (fa1.rd (size := 1) (n := 4096) (by rw [List.size_toArray, bcells_length, pageOf_length])).cut (k := o) (cap := 4096) (Nat.le_refl _)
              rw [if_neg (by omega), Nat.mul_one, List.toList_toArray] at hrd
              have hde : (bcells (pageOf m q)).drop o = bcells ((pageOf m q).drop o) := by simp [bcells]
              rw [hde] at hrd
              have hA : Option.map (fun x : Addr => x.add o) (some ⟨g2, 0, none⟩) = some ⟨g2, o, none⟩ := by rw [Option.map_some, Addr.add_mid, Nat.zero_add]
              rw [hA] at hrd
              refine wpList_copyAt W Try.underlying26 (by kernel_rfl) rfl _ _ rfl g k _ fa0 _ _ _ (by simpa [Act.eval] using e0) W.heap.size _ _ _ _ (by simpa [Act.eval] using e1) hrd (bcells_one _) s (by show s = min (4096 - o) s; omega) (fun _ => rfl) (by rw [List.size_toArray, bcells_length, List.length_append, readM_length, List.length_replicate]; omega) ?_
              intro W2 h2 hg2 _
              rw [List.toList_toArray, read_step m ad n k s q o hkn HXQ.out hos] at h2
              exact Flow.qq_nil ⟨_, rfl, Chg.grown hg2 (by rintro k h; cases h; rfl), h2⟩
            refine Flow.pass_end [none, none, none, none, none, none, none, none, none, none, none, none, none, none, none, none, none, none, none, none, none, none, none, none, none, none, none, none, none, none, none, none, none, none, none, none, none, none, none, none, none, none, none, none, none, some 45, some 46, some 47, some 48, some 49, some 50, some 51, some 52, some 53, some 54, some 55, none, none, none, none] (by kernel_rfl) ?_
            intro f gg w9 hB9 hfa hT hfg
            have hb9 : Blk w9 g 5 (bcells (readM m ad (k + s) ++ List.replicate (n - (k + s)) 0)).toArray := hT 10 _ (by kernel_rfl) rfl
            have B9 := hB.drew.trans hB9
            have hP9 : PM w9 p ram m F N bm D pg := hP3.keep hB9.size (fun b hF => hB9.block b (hFlt b hF))
            simp only [Reg.sel]
            clear hT hfg hfa
            go_wp2
            go_roundw
            case rel => exact ⟨_, hkn, by first | rfl | go_num, hb9, B9, hP9⟩
            case measure => simp [intOf]; omega
      · obtain rfl : k = n := by omega
        go_wp2
        go_ret2
        rw [hL.out, ← HE.out]
        unfold BErrN
        refine ⟨some ⟨g, 0, none⟩, k, ?_, by rw [readM_length]; exact Nat.le_refl _, ?_, hB, fun y hy => by cases hy; exact hg⟩
        · rw [readM_length]; rfl
        · have h1 := hb.rd (size := 1) (n := k) (by simp [bcells, readM])
          rw [readM_length]
          simpa using h1
  · have hL : Hid (readV ram m ad n = []) := Lib.hid (by rw [readV, ← hE, if_neg h0])
    have hne : (E != 0) = true := by simpa using h0
    have HE := Lib.hid hE
    clear hE h0 hP hP1
    go_wp2
    go_ret2
    rw [hL.out, ← HE.out]
    exact ⟨none, 0, rfl, Nat.le_refl _, Rd.nil _ _ _ _, B1, fun y hy => by cases hy⟩
end Go.Proofs.Ytjfmgoickokbjaa
