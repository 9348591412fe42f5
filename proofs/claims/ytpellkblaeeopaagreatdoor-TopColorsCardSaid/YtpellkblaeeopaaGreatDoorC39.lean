/-
  Parts: GdS GdT GeZ TzL Frame.
-/
import Derived.Test.YtpellkblaeeopaaGreatDoorC38
import Derived.Test.YtpellkblaeeopaaGreatDoorC32
import Derived.Test.YtpellkblaeeopaaGreatDoorC30
import Derived.Test.YtpellkblaeeopaaGreatDoorC24
import Derived.Test.YtpellkblaeeopaaGreatDoorRows
import Derived.Lib.TrailingZeros
import Derived.ProofKit
import Derived.LaidMore
import Derived.OpenShut
import Derived.Stop.Joined
import Derived.Test.YtpellkblaeeopaaGreatDoorC00
import Derived.ShutString
import Derived.ChangeOld
import Derived.Below
/-
  Walk: the law TopColors, awake35 told ahead.
-/
namespace Go.Proofs.YtpellkblaeeopaaGreatDoor
open Go.RowKit

/-- awake35 is awake -/
def Awake : Prop := ∀ W, Calls Tryz.prog 4 #[] W fun e w' => e = .returned (.bool true) ∧ Below W.heap.size W w'
def hcells (l : List Nat) : List Value := l.flatMap fun s => (hitC s).toList
theorem hcells_append (a b : List Nat) : hcells (a ++ b) = hcells a ++ hcells b := by simp [hcells]
theorem elHit : Elem Tryz.prog 32 43 (.agg #[.int .u64 0, .int .i64 0, .int .i64 0, .int .i64 0]) 4 32 := Elem.of (by kernel_rfl) (by kernel_rfl) rfl (by omega)
def mkN (a c i : Nat) : Nat := if i = 0 then a else c
/-- between the rounds -/
structure TcS (w wr : World) (p g bs br : Nat) (n : Int) (a c i : Nat) (hv : Value) (hs : List Nat) : Prop where
  i2 : i ≤ 2
  B : Below w.heap.size w wr
  s : Blk wr bs 22 #[.int .u64 (a : Int), .int .u64 (c : Int)]
  r : Blk wr br 25 roomA.cells
  hl : hs.length = i
  sl : w.heap.size ≤ bs
  rl : w.heap.size ≤ br
  hit : ∀ j, j < i → ∃ k r, hs[j]? = some (adA k + r) ∧ r < 4096 ∧ k < 8192 ∧ hitB n.toNat (mkN a c j) k = true
  col : 0 < i → colN n = true
  mem : ∃ m bm F Q N A ca, PMem wr p ramT m F N ∧ Blk wr p 72 #[.int .u64 1073741824, .int .u64 67108864, .map (some bm)] ∧ PoolW wr g (4 * i) Q ∧ (∀ b, F b → ¬ Q b) ∧ N ≤ i * 12288 ∧
    (∀ b, F b → w.heap.size ≤ b) ∧ (∀ b, Q b → w.heap.size ≤ b) ∧ (¬ F bs ∧ ¬ Q bs) ∧ (¬ F br ∧ ¬ Q br) ∧
    hv = .slice A i ca ∧ wr.ownsRow w.heap.size 43 4 (.slice A i ca) i (hcells hs) ∧ ∀ b, (Value.slice A i ca).ownBlock = some b → ¬ F b ∧ ¬ Q b
set_option maxRecDepth 100000 in
set_option maxHeartbeats 8000000 in
theorem topColors_of (haw : Awake) (n : Int) (a c : Nat) (ha : a < 18446744073709551616) (hc : c < 18446744073709551616) (pages : Int) (ipa jpa : Nat) (hi : ipa < 18446744073709551616) (hj : jpa < 18446744073709551616) (w : World) (hT : Tz w) :
    Calls Tryz.prog 3 #[.int .i64 n, .int .u64 (a : Int), .int .u64 (c : Int), .int .i64 pages, .int .u64 (ipa : Int), .int .u64 (jpa : Int)] w fun e w' => e = .returned (.bool true) ∧ Below w.heap.size w w' := by
  have haw' := haw w
  by_cases hp : 1 ≤ pages ∧ pages ≤ 40
  case neg =>
    have h1 : decide (pages < 1) = true ∨ (decide (pages < 1) = false ∧ decide (pages > 40) = true) := by
      by_cases h : pages < 1
      · exact .inl (by simpa using h)
      · exact .inr ⟨by simpa using h, by simp; omega⟩
    clear hp
    rcases h1 with h1 | ⟨h1, h2⟩
    all_goals
      go_enter Tryz.func3, Tryz.ntmps3
      go_wp2_with fail
      refine haw'.mono ?_
      rintro e w1 ⟨rfl, hB1⟩
      go_wp2_with fail
      go_ret
      exact ⟨rfl, hB1⟩
  case pos =>
  obtain ⟨many, rfl⟩ : ∃ many : Nat, pages = many := ⟨pages.toNat, by omega⟩
  have h1 : 1 ≤ many := by omega
  have h40 : many ≤ 40 := by omega
  by_cases hac : a &&& c = 0
  case neg =>
    have hd1 : decide ((many : Int) < 1) = false := by simp; omega
    have hd2 : decide ((many : Int) > 40) = false := by simp; omega
    have hb : (bits .and .u64 (a : Int) (c : Int) != 0) = true := by rw [bits_and_u64_nat a c ha hc]; simpa using hac
    clear hp
    go_enter Tryz.func3, Tryz.ntmps3
    go_wp2_with fail
    refine haw'.mono ?_
    rintro e w1 ⟨rfl, hB1⟩
    go_wp2_with fail
    go_ret
    exact ⟨rfl, hB1⟩
  case pos =>
  have hd1 : decide ((many : Int) < 1) = false := by simp; omega
  have hd2 : decide ((many : Int) > 40) = false := by simp; omega
  have hb : (bits .and .u64 (a : Int) (c : Int) != 0) = false := by rw [bits_and_u64_nat a c ha hc, hac]; rfl
  clear hp
  go_enter Tryz.func3, Tryz.ntmps3
  go_wp2_with fail
  refine haw'.mono ?_
  rintro e w1 ⟨rfl, hB1⟩
  clear haw' haw
  go_wp2_with fail
  have hra := Blk.new (w1.alloc (.cells #[.int .u64 1073741824, .int .u64 67108864] 25)) 25 roomA.cells
  rw [World.size_alloc] at hra
  have B2 := (hB1.alloc hB1.size (.cells #[.int .u64 1073741824, .int .u64 67108864] 25)).alloc (by have := hB1.size; simp; omega) (.cells roomA.cells 25)
  simp only [show roomA.cells = #[.int .u64 1090519040, .int .u64 33554432] from rfl] at hra B2
  generalize (w1.alloc (.cells #[.int .u64 1073741824, .int .u64 67108864] 25)).alloc (.cells #[.int .u64 1090519040, .int .u64 33554432] 25) = W2 at *
  obtain ⟨br, hbr⟩ : ∃ br, br = w1.heap.size + 1 := ⟨_, rfl⟩
  rw [← hbr] at hra ⊢
  have hbrl : w.heap.size ≤ br := by have := hB1.size; omega
  have hnew := mnew_any ramT ⟨by decide, by decide⟩ none 0 0 [] (by intro k hk; cases hk) (by omega) W2 (Rd.nil _ _ _ _) (by intro k hk; cases hk)
  refine Calls.mono hnew ?_
  rintro e w3 ⟨hB3, hne | ⟨-, p, F, rfl, hM, hF⟩⟩
  · exact absurd (by decide : newErr ramT [] = 0) hne.1
  have hra3 := hra.below hB3 hra.lt
  have B3 := B2.trans (hB3.mono B2.size)
  have hFl := hM.flt
  have hrF : ¬ F br := fun h => by have := hF _ h; have := hra.lt; omega
  have hF' : ∀ b, F b → w.heap.size ≤ b := fun b h => by have := hF b h; have := B2.size; omega
  obtain ⟨bm, D, pg, hPM⟩ := hM
  have hpb := hPM.blk
  have hM : PMem w3 p ramT (newM ramT []) F 0 := ⟨bm, D, pg, hPM⟩
  simp only [show (ramT.base : Int) = 1073741824 from rfl, show (ramT.size : Int) = 67108864 from rfl] at hpb
  clear hnew hPM hF hB3 hra B2 hbr hB1
  go_wp2_with fail
  refine (fnew_any _).mono ?_
  rintro e w4 ⟨g, rfl, hP, hB4⟩
  have hra4 := hra3.below hB4 hra3.lt
  have B4 := B3.trans (hB4.mono B3.size)
  have hpb4 := hpb.below hB4 hpb.lt
  have hM4 := hM.below hB4 (Nat.le_refl _)
  have hPl := hP.lt
  have hs3 := hra3.lt
  have hF3 : ∀ b, F b → b < w3.heap.size := hM.flt
  have hs4 := hB4.size
  have hB1s := B3.size
  go_wp2_with fail
  have hms : Blk (w4.alloc (.cells #[.int .u64 (a : Int), .int .u64 (c : Int)] 22)) w4.heap.size 22 #[.int .u64 (a : Int), .int .u64 (c : Int)] := Blk.new _ _ _
  have hI0 : TcS w (w4.alloc (.cells #[.int .u64 (a : Int), .int .u64 (c : Int)] 22)) p g w4.heap.size br n a c 0 (.slice none 0 0) [] := by
    have E := (Ext.refl w4).alloc (.cells #[.int .u64 (a : Int), .int .u64 (c : Int)] 22)
    refine ⟨by omega, B4.alloc B4.size _, hms, hra4.ext E, rfl, by omega, hbrl, fun j hj => by omega, fun h => by omega,
      newM ramT [], bm, F, (fun b => w3.heap.size ≤ b ∧ b < w4.heap.size), 0, none, 0, hM4.keep E.size (fun b _ hl => E.block b hl), hpb4.ext E, hP.chg (Chg.of_ext (Z := fun _ => False) E) (fun _ _ => id), ?_, by omega, hF', ?_, ?_, ?_, rfl, World.ownsRow_nil _ _ _ _, fun b h => by cases h⟩
    · rintro b hb ⟨h2, _⟩; have := hF3 b hb; omega
    · rintro b ⟨h2, _⟩; omega
    · exact ⟨fun h => by have := hF3 _ h; omega, fun h => by omega⟩
    · exact ⟨hrF, fun h => by omega⟩
  clear hM hM4 hpb hpb4 hP hPl hra3 hra4 B3 B4 hB4 hF3 hs3 hs4 hB1s hms hrF hF'
  obtain ⟨bs, hbs⟩ : ∃ bs, bs = w4.heap.size := ⟨_, rfl⟩
  rw [← hbs] at hI0 ⊢
  clear hbs
  generalize w4.alloc (.cells #[.int .u64 (a : Int), .int .u64 (c : Int)] 22) = w5 at *
  go_loopw [18, 56] (fun hv z wr => ∃ (i : Nat) (hs : List Nat), z = .int .i64 (i : Int) ∧ TcS w wr p g bs br n a c i hv hs) (fun _ z _ => 2 - (intOf z).toNat)
  case atStart => exact ⟨0, [], rfl, hI0⟩
  case round =>
    obtain ⟨i, hs, rfl, hI⟩ := hrel
    by_cases hlt : i < 2
    · have hcm : wr.cell? ⟨bs, i, none⟩ = some (.int .u64 ((mkN a c i : Nat) : Int)) := by
        rcases (show i = 0 ∨ i = 1 by omega) with rfl | rfl
        · exact (hI.s.cell 0).trans rfl
        · exact (hI.s.cell 1).trans rfl
      have hmk : mkN a c i < 18446744073709551616 := by unfold mkN; split <;> assumption
      have hra := hI.r
      have htk := take_any n (mkN a c i) many hmk h1 h40 wr
      obtain ⟨mk, hmke⟩ : ∃ mk, mk = mkN a c i := ⟨_, rfl⟩
      rw [← hmke] at hcm hmk htk
      have HMK := Lib.hid hmke
      clear hmke
      simp only [show roomA.cells = #[.int .u64 1090519040, .int .u64 33554432] from rfl] at hra htk
      have hlt' : decide ((i : Int) < 2) = true := by simp; omega
      go_wp2_with (first
        | ((with_reducible refine at_load 25 ?_); refine wpList_loadAllW _ rfl 25 _ rfl br 25 _ hra _ rfl Tryz.underlying25 rfl infSpan ?_))
      refine htk.mono ?_
      rintro e w6 ⟨hB6, ⟨x, hx, rfl⟩ | ⟨hok, hle, srt, A, cc, hsrt, rfl, hO⟩⟩
      · have hx' : (x != 0) = true := by simpa using hx
        have B6 := hI.B.trans (hB6.mono hI.B.size)
        go_wp2_with fail
        go_ret
        exact ⟨rfl, B6⟩
      · have hcn : colN n = true := by simp only [maskOk, Bool.and_eq_true] at hok; exact hok.1.1
        have HTK := Lib.hid (take_ok h40 hle hsrt)
        have HAT := Lib.hid (fun j (hj : j < many) => (take_ok h40 hle hsrt).at hle j hj)
        clear hle hsrt hok htk
        obtain ⟨S, hS⟩ : ∃ S, S = (mergeE srt).map toSp := ⟨_, rfl⟩
        have hSl : (mergeE srt).length = S.length := by rw [hS, List.length_map]
        rw [hSl] at hO ⊢
        rw [← hS] at hO HTK HAT
        have hS0 : 0 < S.length := by
          rcases Nat.eq_zero_or_pos S.length with h | h
          · have := HTK.out.sum
            rw [List.length_eq_zero_iff.1 h] at this
            simp [sumS] at this
            omega
          · exact h
        obtain ⟨b0, o0, rfl⟩ : ∃ b0 o0, A = some ⟨b0, o0, none⟩ := by
          rcases hO.2 with ⟨h, _⟩ | ⟨g', cap, cur, h1, _⟩
          · simp only [Value.slice.injEq] at h; omega
          · simp only [Value.slice.injEq] at h1; exact ⟨_, _, h1.1⟩
        obtain ⟨L, hL⟩ : ∃ L, L = S.length := ⟨_, rfl⟩
        rw [← hL] at hO hS0 ⊢
        have hLl : L ≤ 40 := by have := HTK.out.len; omega
        have HLL := Lib.hid hL
        clear hS hSl hL
        go_wp2_with fail
        have hmp := maps_any b0 o0 L cc S HTK.out.str.pg HTK.out.str.sum (by omega) w6 (Rd.of_own hO |>.more (by have := hB6.size; omega))
        refine hmp.mono ?_
        rintro e w7 ⟨A2, c2, rfl, hO2, hB7⟩
        rw [← HLL.out] at hO2 ⊢
        obtain ⟨b2, o2, rfl⟩ : ∃ b2 o2, A2 = some ⟨b2, o2, none⟩ := by
          rcases hO2.2 with ⟨h, _⟩ | ⟨g', cap, cur, h1, _⟩
          · simp only [Value.slice.injEq] at h; omega
          · simp only [Value.slice.injEq] at h1; exact ⟨_, _, h1.1⟩
        have hb2l : w6.heap.size ≤ b2 := by
          rcases hO2.2 with ⟨h, _⟩ | ⟨g', cap, cur, h1, h2, _⟩
          · simp only [Value.slice.injEq] at h; omega
          · simp only [Value.slice.injEq, Option.some.injEq, Addr.mk.injEq] at h1; omega
        have hB67 := hB6.trans (hB7.mono hB6.size)
        have hs67 := hB67.size
        obtain ⟨hi2, hB, hs_, hr_, hhl, hsl, hrl, hhit, hcol, m, bm, F, Q, N, A, ca, hM, hpb, hP, hFQ, hN, hF0, hQ0, hsF, hrF, rfl, hH, hHF⟩ := hI
        have hFl := hM.flt
        have hQl := hP.lt
        have hM7 := hM.below hB67 (Nat.le_refl _)
        have hpb7 := hpb.below hB67 hpb.lt
        have hP7 := hP.chg (Chg.of_below (Z := fun _ => False) hB67 (fun k h1 h2 => absurd h2 (by omega))) (fun _ _ => id)
        have hr7 := hr_.below hB67 hr_.lt
        have hs7 := hs_.below hB67 hs_.lt
        have hH7 := own_chg hH (Chg.of_below (Z := fun _ => False) hB67 (fun k h1 h2 => absurd h2 (by omega))) (fun _ _ => id)
        have B7 := hB.trans (hB67.mono hB.size)
        have hb6s := hB6.size
        have hbF : ¬ F b2 := fun h => by have := hFl _ h; omega
        have hbQ : ¬ Q b2 := fun h => by have := hQl _ h; omega
        have hbd := build_any p g bm (4 * i) (by omega) b2 o2 L c2 S HTK.out.str (by have := HTK.out.sum; omega) (by have := HTK.out.sum; omega) (by omega) m F Q N (by omega) w7 ((Rd.of_own hO2).more (by have := hB7.size; omega)) hM7 hpb7 hP7 hFQ hbF hbQ
        clear hmp hB6 hB7 hO hO2 hM hpb hP hr_ hs_ hH hB hbF hbQ hb2l hcm hra hI0
        go_wp2_with fail
        refine hbd.mono ?_
        rintro e w8 ⟨rfl, m', F', Q', N', hM8, hpb8, hP8, hFQ8, hTab, hN8, hC8, hF8, hQ8⟩
        rw [show sumS S / 4096 = many by have := HTK.out.sum; omega] at hTab
        have hT8 : Tz w8 := by
          have h0 : 0 < w.heap.size := World.block_lt_of_cell? w _ hT
          have hT7 : Tz w7 := hT.below B7
          have h07 : 0 < w7.heap.size := World.block_lt_of_cell? w7 _ hT7
          exact (World.cell?_of_block (hC8.block 0 h07 (fun h => by rcases h with h | h; have := hF0 _ h; omega; have := hQ0 _ h; omega))).trans hT7
        have hs8 := hs7.chg hC8 (fun h => h.elim hsF.1 hsF.2)
        have hr8 := hr7.chg hC8 (fun h => h.elim hrF.1 hrF.2)
        have hH8 := own_chg hH7 hC8 (fun b hb h => h.elim (hHF b hb).1 (hHF b hb).2)
        have B8 : Below w.heap.size w w8 := B7.trans ⟨hC8.os, hC8.tape, hC8.output, hC8.size, fun k hk => hC8.block k (by have := B7.size; omega) (fun h => by rcases h with h | h; have := hF0 _ h; omega; have := hQ0 _ h; omega)⟩
        have hF08 : ∀ b, F' b → w.heap.size ≤ b := fun b h => by rcases hF8 b h with h | h; exact hF0 b h; have := B7.size; omega
        have hQ08 : ∀ b, Q' b → w.heap.size ≤ b := fun b h => by rcases hQ8 b h with h | h; exact hQ0 b h; have := B7.size; omega
        have hsl7 := hs7.lt
        have hrl7 := hr7.lt
        have hsF8 : ¬ F' bs ∧ ¬ Q' bs := ⟨fun h => by rcases hF8 _ h with h | h; exact hsF.1 h; omega, fun h => by rcases hQ8 _ h with h | h; exact hsF.2 h; omega⟩
        have hrF8 : ¬ F' br ∧ ¬ Q' br := ⟨fun h => by rcases hF8 _ h with h | h; exact hrF.1 h; omega, fun h => by rcases hQ8 _ h with h | h; exact hrF.2 h; omega⟩
        have hHF8 : ∀ b, (Value.slice A i ca).ownBlock = some b → ¬ F' b ∧ ¬ Q' b := fun b hb => by
          have hbl : b < w7.heap.size := by
            rcases hH7.2 with ⟨h, _⟩ | ⟨g', cap, cur, h1, h2, h3, _⟩
            · rw [h] at hb; cases hb
            · rw [h1] at hb; cases hb; exact (Array.getElem?_eq_some_iff.1 h3).1
          exact ⟨fun h => by rcases hF8 _ h with h | h; exact (hHF b hb).1 h; omega, fun h => by rcases hQ8 _ h with h | h; exact (hHF b hb).2 h; omega⟩
        have hQl8 := hP8.lt
        have hFl8 := hM8.flt
        clear hbd hM7 hpb7 hP7 hr7 hs7 hH7 B7 hF8 hQ8 hC8 hsF hrF hHF hFQ hF0 hQ0 hFl hQl hs67 hb6s hsl7 hrl7 hT
        obtain ⟨v, hv⟩ : ∃ v, v = if i = 0 then ipa else jpa := ⟨_, rfl⟩
        have hvl : v < 18446744073709551616 := by rw [hv]; split <;> assumption
        have hcv : (w8.alloc (.cells #[.int .u64 (ipa : Int), .int .u64 (jpa : Int)] 22)).cell? ⟨w8.heap.size, i, none⟩ = some (.int .u64 (v : Int)) := by
          have hh := Blk.new w8 22 #[.int .u64 (ipa : Int), .int .u64 (jpa : Int)]
          rcases (show i = 0 ∨ i = 1 by omega) with rfl | rfl
          · rw [hv]; exact (hh.cell 0).trans rfl
          · rw [hv]; exact (hh.cell 1).trans rfl
        obtain ⟨at_, hat⟩ : ∃ at_, at_ = v % (4096 * many) := ⟨_, rfl⟩
        have hatl : at_ < 4096 * many := by rw [hat]; exact Nat.mod_lt _ (by omega)
        obtain ⟨PP, hPP⟩ : ∃ PP, PP = 4096 * many := ⟨_, rfl⟩
        rw [← hPP] at hat
        have hpm : (4096 : Int) * (many : Int) = (PP : Int) := by omega
        have hPP0 : (PP : Int) ≠ 0 := by omega
        have hwm : IntKind.u64.wrap (many : Int) = (many : Int) := IntWalk.u64_in _ (by omega)
        have hwp : IntKind.u64.wrap (PP : Int) = (PP : Int) := IntWalk.u64_in _ (by omega)
        have hmd : (v : Int).tmod (PP : Int) = (at_ : Int) := by rw [Int.tmod_eq_emod_of_nonneg (by omega), hat]; exact (Int.natCast_emod _ _).symm
        have hmd2 : (v : Int) % (PP : Int) = (at_ : Int) := by rw [hat]; exact (Int.natCast_emod _ _).symm
        have hwat : IntKind.u64.wrap (at_ : Int) = (at_ : Int) := IntWalk.u64_in _ (by omega)
        have E9 := (Ext.refl w8).alloc (.cells #[.int .u64 (ipa : Int), .int .u64 (jpa : Int)] 22)
        have HHS := Lib.hid (And.intro hhl (And.intro hhit hcol))
        have hid' : decide ((i : Int) < 2) = true := by simp; omega
        clear hv hat hPP hhl hhit hcol
        go_wp2_with fail
        have hM9 := hM8.keep E9.size (fun b _ hl => E9.block b hl)
        obtain ⟨k, hk8, hkb, hpk⟩ := HAT.out (at_ / 4096) (by omega)
        have hwk := walk_any p (4 * i) many (by omega) (pasOf S) m' F' N' (by omega) at_ hatl (by rw [hpk]; unfold adA; omega) (by rw [hpk]; unfold adA; omega) hTab _ (tz_alloc hT8 (.cells #[.int .u64 (ipa : Int), .int .u64 (jpa : Int)] 22)) hM9
        rw [hpk] at hwk
        have hs9 := hs8.ext E9
        have hr9 := hr8.ext E9
        have hH9 := own_chg hH8 (Chg.of_ext (Z := fun _ => False) E9) (fun _ _ => id)
        have B9 := B8.alloc B8.size (.cells #[.int .u64 (ipa : Int), .int .u64 (jpa : Int)] 22)
        have hpb9 := hpb8.ext E9
        have hP9 := hP8.chg (Chg.of_ext (Z := fun _ => False) E9) (fun _ _ => id)
        clear hM8 hs8 hr8 hH8 B8 hpb8 hP8 hcv hTab hT8 E9 hpk
        generalize w8.alloc (.cells #[.int .u64 (ipa : Int), .int .u64 (jpa : Int)] 22) = w9 at *
        refine hwk.mono ?_
        rintro e w10 ⟨rfl, hB10⟩
        have hM10 := hM9.below hB10 (Nat.le_refl _)
        have hpb10 := hpb9.below hB10 hpb9.lt
        have hP10 := hP9.chg (Chg.of_below (Z := fun _ => False) hB10 (fun k h1 h2 => absurd h2 (by omega))) (fun _ _ => id)
        have hs10 := hs9.below hB10 hs9.lt
        have hr10 := hr9.below hB10 hr9.lt
        have hH10 := own_chg hH9 (Chg.of_below (Z := fun _ => False) hB10 (fun k h1 h2 => absurd h2 (by omega))) (fun _ _ => id)
        have B10 := B9.trans (hB10.mono B9.size)
        clear hM9 hpb9 hP9 hs9 hr9 hH9 B9 hB10 hwk
        obtain ⟨r, hr⟩ : ∃ r, r = at_ % 4096 := ⟨_, rfl⟩
        have hrl4 : r < 4096 := by omega
        rw [← hr]
        obtain ⟨x, hx⟩ : ∃ x, x = adA k + r := ⟨_, rfl⟩
        have hxl : x < 18446744073709551616 := by unfold adA at hx; omega
        rw [← hx]
        have hcl := fun W => rColor_any x hxl n hcn W
        obtain ⟨q, hq⟩ : ∃ q, q = (266240 + k) % n.toNat := ⟨_, rfl⟩
        have hn7 := colN_cases hcn
        have hn0 : 0 < n.toNat ∧ n.toNat ≤ 64 := by omega
        have hq64 : q < 64 := by rw [hq]; have := Nat.mod_lt (266240 + k) hn0.1; omega
        have hcv : colorV x n = (q : Int) := by
          unfold colorV
          rw [if_pos hcn, hq, hx, show (adA k + r) / 4096 = 266240 + k by unfold adA; omega]
        rw [hcv] at hcl
        have hbit : mk / 2 ^ q % 2 = 1 := by
          unfold hitB at hkb
          rw [← hq] at hkb
          simpa using hkb
        have hbt : (bits .and .u64 ((mk : Int) / 2 ^ q) 1 != 1) = false := by
          have e : (mk : Int) / 2 ^ q = ((mk / 2 ^ q : Nat) : Int) := by rw [Int.natCast_ediv, Int.natCast_pow]; rfl
          have h := bits_and_u64_nat (mk / 2 ^ q) 1 (Nat.lt_of_le_of_lt (Nat.div_le_self _ _) hmk) (by omega)
          rw [Nat.and_one_is_mod, hbit] at h
          have h2 : bits .and .u64 ((mk : Int) / 2 ^ q) 1 = 1 := by rw [e]; exact h
          rw [h2]; rfl
        clear hbit
        have HXR := Lib.hid (And.intro hx (And.intro hrl4 (And.intro hk8 hkb)))
        have hcx := (Blk.new w10 43 (hitC x)).cell 0
        have hE11 := (Ext.refl w10).alloc (.cells (hitC x) 43)
        have hx0 : (w10.alloc (.cells #[.int .u64 (x : Int), .int .i64 3, .int .i64 0, .int .i64 3] 43)).cell? ⟨w10.heap.size, 0, none⟩ = some (.int .u64 (x : Int)) := hcx.trans rfl
        clear hr hx hq hkb hk8 hcv hn7 hcx
        simp only [hitC]
        go_wp2_with fail
        refine (hcl _).mono ?_
        rintro e w11 ⟨rfl, rfl⟩
        have hwq : IntKind.u64.wrap (q : Int) = (q : Int) := IntWalk.u64_in _ (by omega)
        have hE12 : Ext w10 ((w10.alloc (.cells #[.int .u64 (x : Int), .int .i64 3, .int .i64 0, .int .i64 3] 43)).alloc (.cells #[.int .u64 (x : Int), .int .i64 3, .int .i64 0, .int .i64 3] 43)) := ((Ext.refl w10).alloc _).alloc _
        have hN12 := Blk.new (w10.alloc (.cells #[.int .u64 (x : Int), .int .i64 3, .int .i64 0, .int .i64 3] 43)) 43 #[.int .u64 (x : Int), .int .i64 3, .int .i64 0, .int .i64 3]
        rw [World.size_alloc] at hN12
        have hR12 := hN12.rd (size := 4) (n := 1) rfl
        have hO12 := own_chg hH10 (Chg.of_ext (Z := fun _ => False) hE12) (fun _ _ => id)
        have B12 : Below w.heap.size w ((w10.alloc (.cells #[.int .u64 (x : Int), .int .i64 3, .int .i64 0, .int .i64 3] 43)).alloc (.cells #[.int .u64 (x : Int), .int .i64 3, .int .i64 0, .int .i64 3] 43)) := (B10.alloc B10.size _).alloc (by have := B10.size; simp; omega) _
        have hb12 := B12.size
        have hs12 := hs10.ext hE12
        have hr12 := hr10.ext hE12
        have hpb12 := hpb10.ext hE12
        have hP12 := hP10.chg (Chg.of_ext (Z := fun _ => False) hE12) (fun _ _ => id)
        have hM12 := hM10.keep hE12.size (fun b _ hl => hE12.block b hl)
        have hQl12 := hP10.lt
        have hFl12 := hM10.flt
        have hsz12 : ((w10.alloc (.cells #[.int .u64 (x : Int), .int .i64 3, .int .i64 0, .int .i64 3] 43)).alloc (.cells #[.int .u64 (x : Int), .int .i64 3, .int .i64 0, .int .i64 3] 43)).heap.size = w10.heap.size + 2 := by simp
        have hbn : ∀ b, (Value.slice A i ca).ownBlock = some b → b ≠ bs ∧ b ≠ br := fun b hb => ⟨fun e => own_ne hO12 hs12 (by decide) (e ▸ hb) rfl, fun e => own_ne hO12 hr12 (by decide) (e ▸ hb) rfl⟩
        clear hM10 hpb10 hP10 hs10 hr10 hH10 B10 hN12 hE12
        have HSZ := Lib.hid hsz12
        clear hsz12
        go_wp2_with (first
          | (at_builtin; refine wpList_app _ elHit rfl _ _ rfl w.heap.size A i ca _ rfl hO12 _ (some ⟨w10.heap.size + 1, 0, none⟩) 1 1 [.int .u64 (x : Int), .int .i64 3, .int .i64 0, .int .i64 3] rfl hR12 (fun u hu => by simp only [List.mem_cons, List.not_mem_nil, or_false] at hu; rcases hu with rfl | rfl | rfl | rfl <;> rfl) (by omega) (by omega) hb12 ?_; intro A3 c3 w12 hO13 hg12 hB13 hob))
        have hgc : Chg (fun b => (Value.slice A i ca).ownBlock = some b) _ w12 := Chg.grown hg12 (fun k e => e.symm ▸ rfl)
        go_roundw
        case rel =>
          obtain ⟨hhl, hhit, hcol⟩ := HHS.out
          obtain ⟨hx, hrl4, hk8, hkb⟩ := HXR.out
          refine ⟨i + 1, hs ++ [x], by go_num, by omega, B12.trans hB13, hs12.chg hgc (fun h => (hbn _ h).1 rfl), hr12.chg hgc (fun h => (hbn _ h).2 rfl), by rw [List.length_append, hhl]; rfl, hsl, hrl, fun j hj => ?_, fun _ => hcn,
            m', bm, F', Q', N', A3, c3, hM12.keep hgc.size (fun b hb hl => hgc.block b hl (fun h => (hHF8 b h).1 hb)), hpb12.chg hgc (fun h => (hHF8 p h).1 hM12.fp), ?_, hFQ8, by omega, hF08, hQ08, hsF8, hrF8, rfl, ?_, fun b hb => ?_⟩
          · by_cases hji : j < i
            · obtain ⟨k', r', e1, e2⟩ := hhit j hji
              exact ⟨k', r', by rw [List.getElem?_append_left (by omega)]; exact e1, e2⟩
            · obtain rfl : j = i := by omega
              exact ⟨k, r, by rw [List.getElem?_append_right (by omega), hhl, Nat.sub_self, ← hx]; rfl, hrl4, hk8, by rw [← HMK.out]; exact hkb⟩
          · have := hP12.chg hgc (fun b hb h => (hHF8 b h).2 hb)
            rwa [show 4 * i + 4 = 4 * (i + 1) by omega] at this
          · rw [hcells_append]; exact hO13
          · rcases hob with h | h
            · rw [h] at hb; exact hHF8 b hb
            · rw [h] at hb
              obtain rfl := Option.some.inj hb
              have := HSZ.out
              exact ⟨fun h => by have := hFl12 _ h; omega, fun h => by have := hQl12 _ h; omega⟩
        case measure => simp [intOf]; omega
    · obtain rfl : i = 2 := by have := hI.i2; omega
      obtain ⟨hi2, hB, hs_, hr_, hhl, hsl, hrl, hhit, hcol, m, bm, F, Q, N, A, ca, hM, hpb, hP, hFQ, hN, hF0, hQ0, hsF, hrF, rfl, hH, hHF⟩ := hI
      obtain ⟨k0, r0, hx0, hr0, hk0, hb0⟩ := hhit 0 (by omega)
      obtain ⟨k1, r1, hx1, hr1, hk1, hb1⟩ := hhit 1 (by omega)
      have hcn := hcol (by omega)
      have hn7 := colN_cases hcn
      have hap := hit_apart hac hb0 hb1
      obtain ⟨x0, hx0e⟩ : ∃ x, x = adA k0 + r0 := ⟨_, rfl⟩
      obtain ⟨x1, hx1e⟩ : ∃ x, x = adA k1 + r1 := ⟨_, rfl⟩
      rw [← hx0e] at hx0
      rw [← hx1e] at hx1
      have hse : hs = [x0, x1] := by
        match hs, hhl with
        | [y0, y1], _ =>
          simp only [List.getElem?_cons_zero, List.getElem?_cons_succ, Option.some.injEq] at hx0 hx1
          rw [hx0, hx1]
      subst hse
      obtain ⟨p0, hp0⟩ : ∃ p, p = x0 / 4096 := ⟨_, rfl⟩
      obtain ⟨p1, hp1⟩ : ∃ p, p = x1 / 4096 := ⟨_, rfl⟩
      have hp0k : p0 = 266240 + k0 := by rw [hp0, hx0e]; unfold adA; omega
      have hp1k : p1 = 266240 + k1 := by rw [hp1, hx1e]; unfold adA; omega
      rw [← hp0k, ← hp1k] at hap
      have hpne : p0 ≠ p1 := fun e => hap (by rw [e])
      obtain ⟨q0, hq0⟩ : ∃ q, q = p0 % n.toNat := ⟨_, rfl⟩
      obtain ⟨q1, hq1⟩ : ∃ q, q = p1 % n.toNat := ⟨_, rfl⟩
      rw [← hq0, ← hq1] at hap
      have hcl0 : ∀ W, Calls Tryz.prog 12 #[.int .u64 (x0 : Int), .int .i64 n] W fun e w' => e = .returned (.int .i64 (q0 : Int)) ∧ w' = W := fun W => by
        have := colOf_any x0 (by rw [hx0e]; unfold adA; omega) n W
        unfold colorV at this
        rw [if_pos hcn, ← hp0, ← hq0] at this
        exact this
      have hcl1 : ∀ W, Calls Tryz.prog 12 #[.int .u64 (x1 : Int), .int .i64 n] W fun e w' => e = .returned (.int .i64 (q1 : Int)) ∧ w' = W := fun W => by
        have := colOf_any x1 (by rw [hx1e]; unfold adA; omega) n W
        unfold colorV at this
        rw [if_pos hcn, ← hp1, ← hq1] at this
        exact this
      have hd0 : (x0 : Int).tdiv 4096 = (p0 : Int) := by rw [Int.tdiv_eq_ediv_of_nonneg (by omega)]; omega
      have hd1' : (x1 : Int).tdiv 4096 = (p1 : Int) := by rw [Int.tdiv_eq_ediv_of_nonneg (by omega)]; omega
      have hd0' : (x0 : Int) / 4096 = (p0 : Int) := by omega
      have hd1'' : (x1 : Int) / 4096 = (p1 : Int) := by omega
      have hw0 : IntKind.u64.wrap (p0 : Int) = (p0 : Int) := IntWalk.u64_in _ (by omega)
      have hw1 : IntKind.u64.wrap (p1 : Int) = (p1 : Int) := IntWalk.u64_in _ (by omega)
      have hpb1 : ((p0 : Int) == (p1 : Int)) = false := by simp; omega
      have hqb1 : ((q0 : Int) == (q1 : Int)) = false := by simp; omega
      rcases hH.2 with ⟨h, h0⟩ | ⟨hg, cap, cur, h1', h2', h3', h4', h5', h6', h7'⟩
      · cases h0
      simp only [Value.slice.injEq, true_and] at h1'
      obtain ⟨rfl, hca⟩ := h1'
      have hcb : Blk wr hg 43 cur := h3'
      have hc0 : cur[0]? = some (.int .u64 (x0 : Int)) := by
        have := congrArg (fun l => l[0]?) h7'
        simpa [hcells, hitC, List.getElem?_take] using this
      have hc4 : cur[4]? = some (.int .u64 (x1 : Int)) := by
        have := congrArg (fun l => l[4]?) h7'
        simpa [hcells, hitC, List.getElem?_take] using this
      clear hx0 hx1 hx0e hx1e hp0 hp1 hp0k hp1k hq0 hq1 hr0 hr1 hk0 hk1 hb0 hb1 hhit hcol hn7 hM hpb hP hFQ hN hF0 hQ0 hsF hrF hH hHF h2' h3' h4' h5' h6' h7' hI0 hs_ hr_
      go_wp2_with fail
      have hBB := hB
      refine Flow.wp_region_flow (w.heap.size) [] [(3, fun W => Blk W hg 43 cur), (8, fun W => Blk W hg 43 cur), (15, fun W => Blk W hg 43 cur), (21, fun W => Blk W hg 43 cur)] (by kernel_rfl) (by kernel_rfl) hB.size (fun _ h => by cases h) (Flow.facts_cons (hcb.drew) (Flow.kept_blk id) Flow.fz_nil (Flow.facts_cons (hcb.drew) (Flow.kept_blk id) Flow.fz_nil (Flow.facts_cons (hcb.drew) (Flow.kept_blk id) Flow.fz_nil (Flow.facts_cons (hcb.drew) (Flow.kept_blk id) Flow.fz_nil Flow.facts_nil))))  ?_
      refine Flow.pass_old 18 (Flow.met_none rfl) (.inl rfl) (by kernel_rfl) (by kernel_rfl) rfl ?_
      refine Flow.pass_val (.pointer (some ⟨hg, 0, none⟩)) (Flow.met_none rfl) (fun a W hH => ?_) ?_
      · have e0 := Flow.see_new 124 0 hH.sees (by kernel_rfl) (by kernel_rfl) rfl rfl
        go_simp; first | done | rfl
      refine Flow.pass_val (.pointer (some ⟨hg, 0, none⟩)) (Flow.met_none rfl) (fun a W hH => ?_) ?_
      · have e0 := Flow.see_new 125 1 hH.sees (by kernel_rfl) (by kernel_rfl) rfl rfl
        go_simp; first | done | rfl
      refine Flow.pass_val (.int .u64 (x0 : Int)) (Flow.met_none rfl) (fun a W hH => ?_) ?_
      · have e0 := Flow.see_new 126 2 hH.sees (by kernel_rfl) (by kernel_rfl) rfl rfl
        have fa0 : (fun W => Blk W hg 43 cur) W := hH.fact _ (List.mem_of_getElem? (i := 0) rfl) rfl
        have cc : World.cell? W ⟨hg, 0, none⟩ = some (.int .u64 (x0 : Int)) := (fa0.cell 0).trans hc0; go_simp; first | done | rfl
      refine Flow.pass_val (.int .u64 (p0 : Int)) (Flow.met_none rfl) (fun a W hH => ?_) ?_
      · have e0 := Flow.see_new 127 3 hH.sees (by kernel_rfl) (by kernel_rfl) rfl rfl
        go_simp; first | done | exact hw0
      refine Flow.pass_old 18 (Flow.met_none rfl) (.inl rfl) (by kernel_rfl) (by kernel_rfl) rfl ?_
      refine Flow.pass_val (.pointer (some ⟨hg, 4, none⟩)) (Flow.met_none rfl) (fun a W hH => ?_) ?_
      · have e0 := Flow.see_new 129 5 hH.sees (by kernel_rfl) (by kernel_rfl) rfl rfl
        go_simp; first | done | rfl
      refine Flow.pass_val (.pointer (some ⟨hg, 4, none⟩)) (Flow.met_none rfl) (fun a W hH => ?_) ?_
      · have e0 := Flow.see_new 130 6 hH.sees (by kernel_rfl) (by kernel_rfl) rfl rfl
        go_simp; first | done | rfl
      refine Flow.pass_val (.int .u64 (x1 : Int)) (Flow.met_none rfl) (fun a W hH => ?_) ?_
      · have e0 := Flow.see_new 131 7 hH.sees (by kernel_rfl) (by kernel_rfl) rfl rfl
        have fa1 : (fun W => Blk W hg 43 cur) W := hH.fact _ (List.mem_of_getElem? (i := 1) rfl) rfl
        have cc : World.cell? W ⟨hg, 4, none⟩ = some (.int .u64 (x1 : Int)) := (fa1.cell 4).trans hc4; go_simp; first | done | rfl
      refine Flow.pass_val (.int .u64 (p1 : Int)) (Flow.met_none rfl) (fun a W hH => ?_) ?_
      · have e0 := Flow.see_new 132 8 hH.sees (by kernel_rfl) (by kernel_rfl) rfl rfl
        go_simp; first | done | exact hw1
      refine Flow.pass_val (.bool true) (Flow.met_none rfl) (fun a W hH => ?_) ?_
      · have e0 := Flow.see_new 128 4 hH.sees (by kernel_rfl) (by kernel_rfl) rfl rfl
        have e1 := Flow.see_new 133 9 hH.sees (by kernel_rfl) (by kernel_rfl) rfl rfl
        go_simp; omega
      refine Flow.pass_copy 134 10 (Flow.met_none rfl) (.inl rfl) (by kernel_rfl) (by kernel_rfl) rfl rfl (fun _ _ => Flow.kept_eqs _ _) ?_
      refine Flow.pass_old 18 (Flow.met_some 11 true 135 rfl rfl (by kernel_rfl) (by kernel_rfl) rfl rfl) (.inl rfl) (by kernel_rfl) (by kernel_rfl) rfl ?_
      refine Flow.pass_val (.pointer (some ⟨hg, 0, none⟩)) (Flow.met_some 11 true 135 rfl rfl (by kernel_rfl) (by kernel_rfl) rfl rfl) (fun a W hH => ?_) ?_
      · have e0 := Flow.see_new 136 12 hH.sees (by kernel_rfl) (by kernel_rfl) rfl rfl
        go_simp; first | done | rfl
      refine Flow.pass_val (.pointer (some ⟨hg, 0, none⟩)) (Flow.met_some 11 true 135 rfl rfl (by kernel_rfl) (by kernel_rfl) rfl rfl) (fun a W hH => ?_) ?_
      · have e0 := Flow.see_new 137 13 hH.sees (by kernel_rfl) (by kernel_rfl) rfl rfl
        go_simp; first | done | rfl
      refine Flow.pass_val (.int .u64 (x0 : Int)) (Flow.met_some 11 true 135 rfl rfl (by kernel_rfl) (by kernel_rfl) rfl rfl) (fun a W hH => ?_) ?_
      · have e0 := Flow.see_new 138 14 hH.sees (by kernel_rfl) (by kernel_rfl) rfl rfl
        have fa2 : (fun W => Blk W hg 43 cur) W := hH.fact _ (List.mem_of_getElem? (i := 2) rfl) rfl
        have cc : World.cell? W ⟨hg, 0, none⟩ = some (.int .u64 (x0 : Int)) := (fa2.cell 0).trans hc0; go_simp; first | done | rfl
      refine Flow.pass_old 0 (Flow.met_some 11 true 135 rfl rfl (by kernel_rfl) (by kernel_rfl) rfl rfl) (.inl rfl) (by kernel_rfl) (by kernel_rfl) rfl ?_
      refine Flow.pass_step (Reg.eqs (.int .i64 (q0 : Int))) (fun _ _ => Flow.kept_eqs _ _) (Flow.met_some 11 true 135 rfl rfl (by kernel_rfl) (by kernel_rfl) rfl rfl) (fun a W hH => ?_) ?_
      · have e0 := Flow.see_new 139 15 hH.sees (by kernel_rfl) (by kernel_rfl) rfl rfl
        have e1 := Flow.see_new 140 16 hH.sees (by kernel_rfl) (by kernel_rfl) rfl rfl
        refine Reg.wp_call rfl Tryz.func12 rfl (by kernel_rfl) (by simp [Act.eval, e0, e1]) (hcl0 W) ?_
        rintro e w' ⟨rfl, rfl⟩
        exact ⟨_, rfl, _, rfl, Below.refl _ _, rfl⟩
      refine Flow.pass_old 18 (Flow.met_some 11 true 135 rfl rfl (by kernel_rfl) (by kernel_rfl) rfl rfl) (.inl rfl) (by kernel_rfl) (by kernel_rfl) rfl ?_
      refine Flow.pass_val (.pointer (some ⟨hg, 4, none⟩)) (Flow.met_some 11 true 135 rfl rfl (by kernel_rfl) (by kernel_rfl) rfl rfl) (fun a W hH => ?_) ?_
      · have e0 := Flow.see_new 142 18 hH.sees (by kernel_rfl) (by kernel_rfl) rfl rfl
        go_simp; first | done | rfl
      refine Flow.pass_val (.pointer (some ⟨hg, 4, none⟩)) (Flow.met_some 11 true 135 rfl rfl (by kernel_rfl) (by kernel_rfl) rfl rfl) (fun a W hH => ?_) ?_
      · have e0 := Flow.see_new 143 19 hH.sees (by kernel_rfl) (by kernel_rfl) rfl rfl
        go_simp; first | done | rfl
      refine Flow.pass_val (.int .u64 (x1 : Int)) (Flow.met_some 11 true 135 rfl rfl (by kernel_rfl) (by kernel_rfl) rfl rfl) (fun a W hH => ?_) ?_
      · have e0 := Flow.see_new 144 20 hH.sees (by kernel_rfl) (by kernel_rfl) rfl rfl
        have fa3 : (fun W => Blk W hg 43 cur) W := hH.fact _ (List.mem_of_getElem? (i := 3) rfl) rfl
        have cc : World.cell? W ⟨hg, 4, none⟩ = some (.int .u64 (x1 : Int)) := (fa3.cell 4).trans hc4; go_simp; first | done | rfl
      refine Flow.pass_old 0 (Flow.met_some 11 true 135 rfl rfl (by kernel_rfl) (by kernel_rfl) rfl rfl) (.inl rfl) (by kernel_rfl) (by kernel_rfl) rfl ?_
      refine Flow.pass_step (Reg.eqs (.int .i64 (q1 : Int))) (fun _ _ => Flow.kept_eqs _ _) (Flow.met_some 11 true 135 rfl rfl (by kernel_rfl) (by kernel_rfl) rfl rfl) (fun a W hH => ?_) ?_
      · have e0 := Flow.see_new 145 21 hH.sees (by kernel_rfl) (by kernel_rfl) rfl rfl
        have e1 := Flow.see_new 146 22 hH.sees (by kernel_rfl) (by kernel_rfl) rfl rfl
        refine Reg.wp_call rfl Tryz.func12 rfl (by kernel_rfl) (by simp [Act.eval, e0, e1]) (hcl1 W) ?_
        rintro e w' ⟨rfl, rfl⟩
        exact ⟨_, rfl, _, rfl, Below.refl _ _, rfl⟩
      refine Flow.pass_val (.bool true) (Flow.met_some 11 true 135 rfl rfl (by kernel_rfl) (by kernel_rfl) rfl rfl) (fun a W hH => ?_) ?_
      · have e0 := Flow.see_new 141 17 hH.sees (by kernel_rfl) (by kernel_rfl) rfl rfl
        have e1 := Flow.see_new 147 23 hH.sees (by kernel_rfl) (by kernel_rfl) rfl rfl
        go_simp; omega
      refine Flow.pass_val (.bool true) (Flow.met_none rfl) (fun a W hH => ?_) ?_
      · have e0 := Flow.see_new 135 11 hH.sees (by kernel_rfl) (by kernel_rfl) rfl rfl
        have e1 := Flow.see_new 148 24 hH.sees (by kernel_rfl) (by kernel_rfl) rfl rfl
        go_simp; first | done | rfl
      refine Flow.pass_copy 149 25 (Flow.met_none rfl) (.inr rfl) (by kernel_rfl) (by kernel_rfl) rfl rfl (fun _ _ => Flow.kept_eqs _ _) ?_
      refine Flow.pass_end [none, none, none, none, none, none, none, none, none, none, none, none, some 12, none, none, none, none, none, none, none, none, none, none, none, none, none, none, none, none, none, none, none, none, none, none, none, none, none, none, none, none, none, none, none, none, none, none, none, none, none, none, none, none, none, none, none, none, none, none, none, none, none, none, none, none, none, none, none, none, none, none, none, none, none, none, none, none, none, none, none, none, none, none, none, none, none, none, none, none, none, none, none, none, none, none, none, none, none, none, none, none, none, none, none, none, none, none, none, none, none, none, none, none, none, none, none, none, none, none, none, none, none, none, none, some 124, some 125, some 126, some 127, some 128, some 129, some 130, some 131, some 132, some 133, some 134, some 135, some 136, some 137, some 138, some 139, some 140, some 141, some 142, some 143, some 144, some 145, some 146, some 147, some 148, some 149] (by kernel_rfl) ?_
      intro f gg w9 hB hfa hT hfg
      have h12 : f 12 = _ := (hfg 12 26 (by kernel_rfl)).trans (hT 26 _ (by kernel_rfl) rfl)
      simp only [Reg.sel, h12]
      go_wp2_with fail
      go_ret
      exact ⟨rfl, hBB.trans (((Below.refl _ wr).drew.trans hB).mono (Nat.le_refl _))⟩
end Go.Proofs.YtpellkblaeeopaaGreatDoor
/-
  The law TopColors at the row's own arguments.
-/
namespace Go.Proofs.YtpellkblaeeopaaGreatDoor
open Go.RowKit

theorem nat_u64 {a : Int} (h : (Lit.int .u64 a).wf = true) : ∃ m : Nat, a = m ∧ m < 18446744073709551616 := by
  have h2 : 0 ≤ a ∧ a < 18446744073709551616 := by
    have e1 : IntKind.u64.min = 0 := by decide
    have e2 : IntKind.u64.max = 18446744073709551615 := by decide
    simp [Lit.wf, e1, e2] at h
    omega
  exact ⟨a.toNat, by omega, by omega⟩
theorem topColors_walk_of (haw : Awake) (w : World) (hT : Tz w) (a0 : Int) (_w0 : (Lit.int .i64 a0).wf = true) (a1 : Int) (w1 : (Lit.int .u64 a1).wf = true) (a2 : Int) (w2 : (Lit.int .u64 a2).wf = true) (a3 : Int) (_w3 : (Lit.int .i64 a3).wf = true)
    (a4 : Int) (w4 : (Lit.int .u64 a4).wf = true) (a5 : Int) (w5 : (Lit.int .u64 a5).wf = true) :
    Calls Tryz.prog 3 #[.int .i64 a0, .int .u64 a1, .int .u64 a2, .int .i64 a3, .int .u64 a4, .int .u64 a5] w fun e w' => e = .returned (.bool true) ∧ Below w.heap.size w w' := by
  obtain ⟨m1, rfl, h1⟩ := nat_u64 w1
  obtain ⟨m2, rfl, h2⟩ := nat_u64 w2
  obtain ⟨m4, rfl, h4⟩ := nat_u64 w4
  obtain ⟨m5, rfl, h5⟩ := nat_u64 w5
  exact topColors_of haw a0 m1 m2 h1 h2 a3 m4 m5 h4 h5 w hT
end Go.Proofs.YtpellkblaeeopaaGreatDoor
/-
  awake35: a text is printed, a board has a tree; and so the law TopColors at the row's own arguments.
-/
namespace Go.Proofs.YtpellkblaeeopaaGreatDoor
open Go.RowKit

set_option maxRecDepth 100000 in
set_option maxHeartbeats 4000000 in
theorem awake : Awake := by
  intro w
  have hsm := small17_any w
  have ek : Tryz.zeroCells58.setIfInBounds 3 (.int .u8 1) = keyA := by kernel_rfl
  go_enter Tryz.func4, Tryz.ntmps4
  go_wp2_with fail
  clear ek
  generalize keyA = ka at hsm ⊢
  refine hsm.mono ?_
  rintro e W1 ⟨bs, bc, b1, b2, b3, b4, b5, b6, rfl, hgs, hch, hbc, hB1⟩
  clear hsm
  go_wp2_with (first
    | ((with_reducible refine at_alloc 50 ?_); refine wpList_allocO W1 rfl rfl (.agg cz4) zBd ?_; intro W2 B2 hE2 hl2 hz2)
    | ((with_reducible refine at_alloc 55 ?_); refine wpList_allocO W2 rfl rfl (.agg cz5) zCf ?_; intro W3 B3 hE3 hl3 hz3; have hz2' := hz2.ext hE3)
    | ((with_reducible refine at_store 50 ?_); refine wpList_storeAll W3 rfl 50 _ _ rfl B2 50 _ bdC hz2' rfl rfl cz4s infBd bd_one ?_; intro W4 hb4 hg4 hs4; have hn32 : B3 ≠ B2 := (by have := hz2.lt; omega); have hz3' : Blk W4 B3 55 cz5 := (hg4.block B3 hz3.lt (by simpa using hn32)).trans hz3)
    | ((with_reducible refine at_store 55 ?_); refine wpList_storeAll W4 rfl 55 _ _ rfl B3 55 _ (cfgC bs bc) hz3' rfl rfl cz5s infCf (cf_one _ _) ?_; intro W5 hb5 hg5 hs5; have hb45 : Blk W5 B2 50 bdC := (hg5.block B2 hb4.lt (by simpa using hn32.symm)).trans hb4)
    | ((with_reducible refine at_load 55 ?_); refine wpList_loadAll W5 rfl 55 _ rfl B3 55 (cfgC bs bc) hb5 _ rfl Tryz.underlying55 rfl infCf ?_))
  have q1 : W1.heap.size ≤ W2.heap.size := hE2.size
  have hE4 : Ext W1 W4 := grown_below (hE2.trans hE3) hg4 (hE2.trans hE3).size hl2
  have hE5 : Ext W1 W5 := grown_below hE4 hg5 hE4.size (by omega)
  refine (print_any W5 w.heap.size bs bc b1 b2 b3 b4 b5 b6 (hgs.ext hE5) (hch.ext hE5)).mono ?_
  rintro e W6 ⟨⟨s, rfl, hs1, hs2⟩, hB6⟩
  have hb6 := hb45.ext hB6
  have hE6 : Ext W1 W6 := hE5.trans hB6
  clear hgs hch hbc hz2 hz3 hz2' hb4 hg4 hs4 hn32 hz3' hb5 hg5 hs5 hb45 hE4 hE5 hB6 hE2 hE3
  go_wp2_with ((with_reducible refine at_load 50 ?_); refine wpList_loadAll W6 rfl 50 _ rfl B2 50 bdC hb6 _ rfl Tryz.underlying50 rfl infBd ?_)
  refine (tree_any W6).mono ?_
  rintro e W7 ⟨⟨tc, rfl, htc, hto⟩, hB7⟩
  have hE7 : Ext W1 W7 := hE6.trans hB7
  have htci : (Tryz.prog.info? 64).map (·.size) = some tc.size := infTree htc
  have htz : tc.size = (Value.agg zTr).cells.size := htc
  have hdl : decide ((s.length : Int) > 100) = true := decide_eq_true (by omega)
  clear hb6 hE6
  simp only [strVE]
  go_wp2_with (first
    | ((with_reducible refine at_alloc 64 ?_); refine wpList_allocO W7 rfl rfl (.agg zTr) zeroTree ?_; intro W8 B8 hE8 hl8 hz8)
    | ((with_reducible refine at_store 64 ?_); refine wpList_storeAll W8 rfl 64 _ _ rfl B8 64 _ tc hz8 rfl rfl htz htci hto ?_; intro W9 hb9 hg9 hs9))
  go_ret
  have hE9 : Ext W1 W9 := grown_below (hE7.trans hE8) hg9 (hE7.trans hE8).size (by have := hE7.size; omega)
  exact ⟨rfl, hB1.trans (hE9.mono hB1.size)⟩
theorem topColors_walk (w : World) (hT : Tz w) (a0 : Int) (w0 : (Lit.int .i64 a0).wf = true) (a1 : Int) (w1 : (Lit.int .u64 a1).wf = true) (a2 : Int) (w2 : (Lit.int .u64 a2).wf = true) (a3 : Int) (w3 : (Lit.int .i64 a3).wf = true)
    (a4 : Int) (w4 : (Lit.int .u64 a4).wf = true) (a5 : Int) (w5 : (Lit.int .u64 a5).wf = true) :
    Calls Tryz.prog 3 #[.int .i64 a0, .int .u64 a1, .int .u64 a2, .int .i64 a3, .int .u64 a4, .int .u64 a5] w fun e w' => e = .returned (.bool true) ∧ Below w.heap.size w w' :=
  topColors_walk_of awake w hT a0 w0 a1 w1 a2 w2 a3 w3 a4 w4 a5 w5
end Go.Proofs.YtpellkblaeeopaaGreatDoor
/-
  From the row's condition: the library's table of shifts lies as it was laid.
-/
namespace Go.Proofs.YtpellkblaeeopaaGreatDoor
open Go.ChangeShapes Go.WideShapes Go.ChangeAt Go.RowKit

theorem ints_trod {H : Type} {P : Program} {enc : TypeId × Value → H} {w : World} {base : Nat} {spare : Nat → Bool} {held : Bool} {fuel : Nat} {t e : TypeId} {n : Nat} {k : IntKind} {cs : List Value} {x : DataW H × List MemPlace}
    (hu : P.underlying t = some (.array n e)) (he : P.underlying e = some (.int k)) (hC : P.cellsOf e = 1) (hN : P.cellsOf t = n) (h : DataW.trod enc P w base spare held fuel t cs = some x) :
    ∃ zs : List Int, cs = zs.map (fun z => Value.int k z) ∧ x.1 = .agg (zs.map fun z => .lit (.int k z)) := by
  obtain ⟨xs, m, rfl, rfl, hlen, hxl, hel⟩ := DataW.trod_array hu h
  rw [hN] at hlen
  have hz : ∀ i (hi : i < n), ∃ z, cs[i]'(by omega) = .int k z ∧ (xs[i]'(by omega)).1 = .lit (.int k z) := by
    intro i hi
    have h1 := hel i hi
    rw [hC, Nat.mul_one, List.getElem?_eq_getElem (by omega)] at h1
    obtain ⟨z, e1, e2, _⟩ := DataW.trod_int he h1
    rw [List.drop_eq_getElem_cons (by omega)] at e1
    simp only [List.take_succ_cons, List.take_zero, List.cons.injEq, and_true] at e1
    exact ⟨z, e1, by rw [e2]⟩
  refine ⟨cs.map fun v => match v with | .int _ z => z | _ => 0, ?_, ?_⟩
  · apply List.ext_getElem
    · simp
    · intro i h1 h2
      obtain ⟨z, e1, _⟩ := hz i (by omega)
      simp [e1]
  · show DataW.agg _ = _
    congr 1
    apply List.ext_getElem
    · simp; omega
    · intro i h1 h2
      obtain ⟨z, e1, e2⟩ := hz i (by simp at h1; omega)
      simp [e1, e2]
theorem lits_inj {H : Type} {k : IntKind} (a b : List Int) (h : (DataW.agg (a.map fun z => (.lit (.int k z) : DataW H)) : DataW H) = .agg (b.map fun z => .lit (.int k z))) : a = b := by
  simp only [DataW.agg.injEq] at h
  exact (List.map_inj_right (fun x y e => by simpa using e)).1 h
theorem var_blk {P : Program} {W : World} {nm : String} {g : Nat} {cs : Array Value} (hg : P.globalNamed nm = some g) (hv : W.var? P nm = some cs) : ∃ t f, W.heap[g]? = some (.cells cs t f) := by
  unfold World.var? at hv
  rw [hg] at hv
  simp only [Option.bind_some] at hv
  split at hv
  · rename_i c t f hh
    cases hv
    exact ⟨_, _, hh⟩
  · cases hv
theorem gDb : Tryz.prog.globalNamed "math/bits.deBruijn64tab" = some 0 := by kernel_rfl
theorem tDb : (Tryz.prog.globals[0]?).map (·.type) = some 203 := by kernel_rfl
def dbI : List Int := List.map (fun n : Nat => (n : Int)) Lib.deBruijn64tab
abbrev laidL : List (String × DataW Unit) := [("math/bits.deBruijn64tab", Rows.laid_math_bits_deBruijn64tab)]
theorem tabs_of {W : World} (h : laidMetH Tryz.prog laidL W) : Tz W := by
  rw [MakeChecks.laidMetH_plain _ _ _ (by kernel_rfl)] at h
  obtain ⟨ps, ⟨g0, t0, cs0, f0, p0, q0, hg0, ht0, hv0, hd0, hq, hps⟩, _, hrow⟩ := h
  obtain rfl := Option.some.inj (gDb.symm.trans hg0)
  obtain rfl := Option.some.inj (tDb.symm.trans ht0)
  obtain ⟨z0, e0, d0⟩ := ints_trod Tryz.underlying203 Tryz.underlying5 (by kernel_rfl) (by kernel_rfl) hd0
  have k0 : z0 = dbI := lits_inj _ _ (d0.symm.trans (by kernel_rfl))
  have hl : cs0.size = 64 := by rw [← Array.length_toList, e0, k0]; rfl
  have hc : cs0[30]? = some (.int .u8 12) := by
    rw [← Array.getElem?_toList, e0, k0]
    rfl
  have in0 : MemPlace.cell 0 0 ∈ ps := by
    rw [hps]
    exact List.mem_append_left _ (List.mem_append_left _ (List.mem_map.2 ⟨0, List.mem_range.2 (by omega), rfl⟩))
  obtain ⟨t0, f0, hb0⟩ := var_blk gDb hv0
  obtain ⟨⟨c, t, hr0⟩, _⟩ := hrow _ _ in0
  rw [hb0] at hr0
  cases hr0
  have hb : Blk W 0 _ _ := hb0
  exact (hb.cell 30).trans hc
/-- the door's own heap meets the condition -/
theorem door_met (os : Os) (args : Array Value) : laidMetH Tryz.prog laidL ((World.doorLaid Tryz.prog 400 os).forCall (fun _ _ => 0) ⟨#[], args, []⟩).memory :=
  laidMetH_of_parts3 (fuel := 8) (laidMet_of_run' 8 (by kernel_rfl) (by kernel_rfl)) (by kernel_rfl) (by kernel_rfl)
end Go.Proofs.YtpellkblaeeopaaGreatDoor
/-
  How the arguments are opened for the walks, whatever the law.
-/
namespace Go.Proofs.YtpellkblaeeopaaGreatDoor.Frame
open Go.ChangeShapes Go.WideShapes Go.ChangeAt Go.RowKit
open Go.ChangeMaps (open_string shut_string)

theorem own : ownKnob Tryz.prog.godebug = none := by kernel_rfl
section
variable {H : Type} {enc : TypeId × Value → H} {P : Program} {W : World}
end
end Go.Proofs.YtpellkblaeeopaaGreatDoor.Frame
