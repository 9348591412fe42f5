/-
  Parts: GeC GeA XmssA XmssB XmssD Eq.
-/
import Derived.Test.YtpellkblaeeopaaGreatDoorC03
import Derived.Test.YtpellkblaeeopaaGreatDoorC16
import Derived.Lib.AppendStr
import Derived.Test.YtpellkblaeeopaaGreatDoorC15
import Derived.Test.YtpellkblaeeopaaGreatDoorC08
import Derived.Test.YtpellkblaeeopaaGreatDoorC02
import Derived.Test.YtpellkblaeeopaaGreatDoorC00
import Derived.ChangeKeysEq
/-
  Blocks that a call leaves alone by their type; rows of bytes behind a pointer; append of a text. Walks for awake35: text.page.line, text.wide, text.perm.
-/
namespace Go.Proofs.YtpellkblaeeopaaGreatDoor
open Go.RowKit

/-- what lies below G, and every block of another type than a byte's, but for G, is as it was -/
structure KpT (G : Nat) (w w' : World) : Prop where
  below : Below G w w'
  blk : ∀ X t cs, t ≠ 5 → X ≠ G → Blk w X t cs → Blk w' X t cs
theorem KpT.refl (G : Nat) (w : World) : KpT G w w := ⟨Below.refl _ _, fun _ _ _ _ _ h => h⟩
theorem KpT.trans {G : Nat} {a b c : World} (h : KpT G a b) (k : KpT G b c) : KpT G a c := ⟨h.below.trans k.below, fun X t cs h1 h2 h3 => k.blk X t cs h1 h2 (h.blk X t cs h1 h2 h3)⟩
theorem KpT.of_ext {G : Nat} {a b : World} (h : Ext a b) (hG : G ≤ a.heap.size) : KpT G a b := ⟨h.below hG, fun _ _ _ _ _ hb => hb.ext h⟩
theorem KpT.of_below {G : Nat} {a b : World} (h : Below a.heap.size a b) (hG : G ≤ a.heap.size) : KpT G a b := KpT.of_ext h hG
theorem KpT.drew {G : Nat} {a b : World} (h : KpT G a b) : KpT G a b.drew := ⟨h.below.drew, h.blk⟩
theorem grown_setE (w : World) (g k' : Nat) (v : Value) : w.grownBy (w.setCell ⟨g, k', none⟩ v) (some g) := ⟨rfl, rfl, rfl, by simp, fun k _ hk => heap_setCell_other w ⟨g, k', none⟩ k v (fun e => hk (by simp [e]))⟩
theorem KpT.of_own {G base n : Nat} {w w' : World} {v : Value} {xs : List Value} (ho : w.ownsRow base 5 1 v n xs) (hg : w.grownBy w' v.ownBlock) (hG : G ≤ base) (hB : G ≤ w.heap.size) : KpT G w w' :=
  ⟨(Below.refl G w).grown hg hB (fun k hk => by have := (ho.lt k hk).1; omega), fun X t cs h1 _ hb => (hg.block X hb.lt (fun e => own_ne ho hb h1 e.symm rfl)).trans hb⟩
theorem KpT.set_ {G k : Nat} (w : World) (v : Value) : KpT G w (w.setCell ⟨G, k, none⟩ v) := ⟨(Below.refl G w).setCell (p := ⟨G, k, none⟩) (Nat.le_refl _) v, fun _ _ _ _ h2 hb => hb.far h2 v⟩
/-- a struct of one slice of bytes, the bytes in memory of its own behind it -/
def PgT (T : TypeId) (g : Nat) (l : List UInt8) (w : World) : Prop := ∃ A c, Blk w g T #[.slice A l.length c] ∧ w.ownsRow g 5 1 (.slice A l.length c) l.length (bcells l)
theorem PgT.ext {T : TypeId} {g : Nat} {l : List UInt8} {w w' : World} (h : PgT T g l w) (e : Ext w w') : PgT T g l w' := by
  obtain ⟨A, c, h1, h2⟩ := h
  exact ⟨A, c, h1.ext e, own_chg h2 (Chg.of_ext e) (fun _ _ => id)⟩
theorem PgT.lt {T : TypeId} {g : Nat} {l : List UInt8} {w : World} (h : PgT T g l w) : g < w.heap.size := by obtain ⟨A, c, h1, _⟩ := h; exact h1.lt
/-- behind an append and a store -/
theorem PgT.put {T : TypeId} (hT : T ≠ 5) {g n' : Nat} {l l' : List UInt8} {A A' : Option Addr} {c c' : Nat} {w w0 w1 : World} (hb : Blk w g T #[.slice A l.length c]) (ho : w0.ownsRow g 5 1 (.slice A l.length c) l.length (bcells l)) (h0 : Ext w w0)
    (hg : w0.grownBy w1 (Value.slice A l.length c).ownBlock) (ho1 : w1.ownsRow g 5 1 (.slice A' n' c') n' (bcells l')) :
    PgT T g l' (w1.setCell ⟨g, 0, none⟩ (.slice A' n' c')) ∧ KpT g w (w1.setCell ⟨g, 0, none⟩ (.slice A' n' c')) := by
  have hn : n' = l'.length := by have := ho1.1; rw [bcells_length] at this; omega
  subst hn
  have hb0 := hb.ext h0
  have hb1 : Blk w1 g T #[.slice A l.length c] := (hg.block g hb0.lt (fun e => own_ne ho hb0 hT e.symm rfl)).trans hb0
  have hlt : g ≤ w0.heap.size := Nat.le_of_lt hb0.lt
  refine ⟨⟨A', c', hb1.set_ 0 _, own_chg ho1 (Chg.grown (Z := fun b => b = g) (grown_setE w1 g 0 _) (by rintro j h; cases h; rfl)) (fun b hb e => own_ne ho1 hb1 hT hb e)⟩, ?_⟩
  exact ((KpT.of_ext h0 (Nat.le_of_lt hb.lt)).trans (KpT.of_own ho hg (Nat.le_refl _) hlt)).trans (KpT.set_ w1 _)
theorem elB : Elem Tryz.prog 73 5 (.int .u8 0) 1 1 := Elem.of (by kernel_rfl) (by kernel_rfl) rfl (by omega)
theorem run_b1 (w : World) (c : UInt8) : (Instr.buildSlice 73 1 #[(0, .int .u8 (c.toNat : Int))]).run Tryz.prog w = .ok (.slice (some ⟨w.heap.size, 0, none⟩) 1 1) (w.alloc (.cells #[.int .u8 (c.toNat : Int)] 5)) := by
  have := run_buildSlice_all (P := Tryz.prog) w elB 1 #[(0, .int .u8 (c.toNat : Int))] [.int .u8 (c.toNat : Int)] rfl rfl (by omega) (by omega) (by simp [Value.cells])
  simpa [flat, Value.cells] using this
theorem strCells_b (S : List UInt8) : Lib.strCells ⟨S.toArray⟩ = bcells S := by simp [Lib.strCells, bcells]
section
variable {ops : Array Oper} {rest : List Oper} {o : Oper} {a : Act} {Q : Exit → Act → World → Prop}
/-- append(b, s...) of a text onto bytes of the call's own -/
theorem wpList_appS (w : World) (hgd : o.guard = none) (s x : Operand) (ho : o.op = .call { callee := .builtin .append, args := #[s, x], argTypes := #[73, 9] })
    (base : Nat) (A : Option Addr) (c : Nat) (l : List UInt8) (hs : a.eval s = .slice A l.length c) (hown : w.ownsRow base 5 1 (.slice A l.length c) l.length (bcells l)) (S : List UInt8) (hx : a.eval x = .string ⟨S.toArray⟩)
    (hk : l.length + S.length ≤ 100000000) (hbase : base ≤ w.heap.size)
    (h : ∀ A' c' w', w'.ownsRow base 5 1 (.slice A' (l.length + S.length) c') (l.length + S.length) (bcells (l ++ S)) → w.grownBy w' (Value.slice A l.length c).ownBlock →
      wpList Tryz.prog ops Q rest (a.put o.dst (.slice A' (l.length + S.length) c')) w') : wpList Tryz.prog ops Q (o :: rest) a w := by
  obtain ⟨i, hi, hz, h4, h5⟩ := elB.info
  refine Lib.wpList_append_own_string w hgd s x 73 9 ho base 5 i elB.under Tryz.underlying9 hi hz h4 h5 (.slice A l.length c) l.length (bcells l) hs hown ⟨S.toArray⟩ hx ?_ ?_ hbase ?_
  · show l.length + S.length ≤ maxLen
    simp only [maxLen]; omega
  · show l.length + S.length ≤ 140737488355328
    omega
  · intro v' w' h1 h2 _
    rw [strCells_b] at h1
    have h1' : w'.ownsRow base 5 1 v' (l.length + S.length) (bcells l ++ bcells S) := h1
    have hex : ∃ A' c', v' = .slice A' (l.length + S.length) c' := by
      rcases h1'.2 with ⟨e1, e2⟩ | ⟨g, cap, cur, e1, _⟩
      · rw [e2]; exact ⟨_, _, e1⟩
      · exact ⟨_, _, e1⟩
    obtain ⟨A', c', rfl⟩ := hex
    refine h A' c' w' ?_ h2
    have e : bcells (l ++ S) = bcells l ++ bcells S := by simp [bcells]
    rw [e]; exact h1'
end
section
variable {ops : Array Oper} {rest : List Oper} {o : Oper} {a : Act} {Q : Exit → Act → World → Prop}
/-- the store behind an append -/
theorem wpList_pgStore {w w0 w1 : World} (hw : Region.wanted o (yielded ops a.tmps) = true) {ty : TypeId} {x y : Tmp} (hop : o.op = .store ty (.tmp x) (.tmp y)) (hi : (Tryz.prog.info? ty).map (·.size) = some 1) {T : TypeId} (hT : T ≠ 5) {g n' : Nat} {l l' : List UInt8} {A A' : Option Addr} {c c' : Nat}
    (hb : Blk w g T #[.slice A l.length c]) (ho : w0.ownsRow g 5 1 (.slice A l.length c) l.length (bcells l)) (h0 : Ext w w0) (hg : w0.grownBy w1 (Value.slice A l.length c).ownBlock) (ho1 : w1.ownsRow g 5 1 (.slice A' n' c') n' (bcells l'))
    (hx : a.tmps[x]?.getD undef = .pointer (some ⟨g, 0, none⟩)) (hy : a.tmps[y]?.getD undef = .slice A' n' c')
    (h : ∀ W2 A2 c2, Blk W2 g T #[.slice A2 l'.length c2] → W2.ownsRow g 5 1 (.slice A2 l'.length c2) l'.length (bcells l') → KpT g w W2 → W2.cell? ⟨g, 0, none⟩ = some (.slice A2 l'.length c2) → wpList Tryz.prog ops Q rest (a.put o.dst undef) W2) :
    wpList Tryz.prog ops Q (o :: rest) a w1 := by
  have hb0 := hb.ext h0
  have hb1 : Blk w1 g T #[.slice A l.length c] := (hg.block g hb0.lt (fun e => own_ne ho hb0 hT e.symm rfl)).trans hb0
  obtain ⟨⟨A2, c2, h1, h2⟩, h3⟩ := PgT.put hT hb ho h0 hg ho1
  exact wpList_runS hw (reg_storeSlice hop hi hb1 hx hy (by simp)) (h _ A2 c2 h1 h2 h3 ((h1.cell 0).trans rfl))
end
theorem bcells_app (l m : List UInt8) : bcells (l ++ m) = bcells l ++ bcells m := by simp [bcells]
def strVE (s : List UInt8) : Value := .string ⟨s.toArray⟩
/-- how many letters words have -/
def tot (ws : List (List UInt8)) : Nat := ws.flatten.length
theorem tot_snoc (ws : List (List UInt8)) (k : Nat) (s : List UInt8) (h : ws[k]? = some s) : tot (ws.take (k + 1)) = tot (ws.take k) + s.length := by
  obtain ⟨hk, rfl⟩ := List.getElem?_eq_some_iff.1 h
  rw [List.take_succ_eq_append_getElem hk]
  simp only [tot, List.flatten_append, List.length_append, List.flatten_cons, List.flatten_nil, List.append_nil]
theorem tot_take (ws : List (List UInt8)) (k : Nat) : tot (ws.take k) ≤ tot ws := by
  conv => rhs; rw [← List.take_append_drop k ws]
  simp only [tot, List.flatten_append, List.length_append]
  omega
set_option maxRecDepth 100000 in
set_option maxHeartbeats 4000000 in
theorem line_any (g x : Nat) (inner : Bool) (ws : List (List UInt8)) (m : Nat) (hm : Hid (ws.length = m)) (hm1 : m ≤ 10) (ht : tot ws ≤ 10000) (l : List UInt8) (hl : l.length ≤ 1000000) (w : World)
    (hx : Blk w x 9 (ws.map strVE).toArray) (hp : PgT 128 g l w) :
    Calls Tryz.prog 37 #[.pointer (some ⟨g, 0, none⟩), .bool inner, .slice (some ⟨x, 0, none⟩) m m] w fun e w' => e = .returned (.tuple #[]) ∧ (∃ l', l.length + tot ws ≤ l'.length ∧ l'.length ≤ l.length + tot ws + 20 ∧ PgT 128 g l' w') ∧ KpT g w w' := by
  have hxg : x ≠ g := by
    rintro rfl
    obtain ⟨A, c, h1, _⟩ := hp
    unfold Blk at h1 hx
    rw [h1] at hx
    injection hx with hx
    injection hx with _ hx
    cases hx
  have hT : 128 ≠ 5 := by decide
  have hS : (9 : Nat) ≠ 5 := by decide
  obtain ⟨A, c, hb, ho⟩ := hp
  have c0 : w.cell? ⟨g, 0, none⟩ = some (.slice A l.length c) := (hb.cell 0).trans rfl
  have hlt := hb.lt
  go_enter Tryz.func37, Tryz.ntmps37
  have key : ∀ (W : World), KpT g w W → Blk W x 9 (ws.map strVE).toArray := fun W h => h.blk x _ _ hS hxg hx
  have pre : ∀ (W1 : World) (l1 : List UInt8) (A1 : Option Addr) (c1 : Nat), l.length ≤ l1.length → l1.length ≤ l.length + 2 → KpT g w W1 → Blk W1 g 128 #[.slice A1 l1.length c1] → W1.ownsRow g 5 1 (.slice A1 l1.length c1) l1.length (bcells l1) →
    ∃ L : List UInt8, l.length + tot (ws.take 0) ≤ L.length ∧ L.length ≤ l.length + tot (ws.take 0) + 2 + 0 ∧ PgT 128 g L W1 ∧ KpT g w W1 := fun W1 l1 A1 c1 h1 h2 h3 h4 h5 => ⟨l1, by simpa [tot] using h1, by simpa [tot] using h2, ⟨A1, c1, h4, h5⟩, h3⟩
  cases inner
  case' false =>
    have hin := pre w l A c (Nat.le_refl _) (by omega) (KpT.refl _ _) hb ho
    go_wp2
  case' true =>
    go_wp2_with (first
      | ((with_reducible refine at_append ?_); refine wpList_appS w rfl _ _ rfl g A c l rfl ho [32, 32] rfl (by simp; omega) (Nat.le_of_lt hlt) ?_; intro A1 c1 w1 ho1 hg1)
      | ((with_reducible refine at_store 73 ?_); refine wpList_pgStore rfl rfl (by kernel_rfl) hT hb ho (Ext.refl _) hg1 ho1 rfl rfl ?_; intro W2 A2 c2 hb2 ho2 hk2 cc2))
    have hin := pre W2 (l ++ [32, 32]) A2 c2 (by simp) (by simp) hk2 hb2 ho2
    clear cc2 hb2 ho2 hk2 ho1 hg1
  all_goals
    clear pre
    go_loopw [19] (fun i wr => ∃ k : Nat, k ≤ m ∧ i = .int .i64 (k : Int) ∧ ∃ L : List UInt8, l.length + tot (ws.take k) ≤ L.length ∧ L.length ≤ l.length + tot (ws.take k) + 2 + k ∧ PgT 128 g L wr ∧ KpT g w wr) (fun i _ => m - (intOf i).toNat)
    case atStart => exact ⟨0, Nat.zero_le _, rfl, hin⟩
    case round =>
      obtain ⟨k, hk, rfl, L, hL1, hL2, ⟨A3, c3, hb3, ho3⟩, hk3⟩ := hrel
      have hx3 := key wr hk3
      have cc3 : wr.cell? ⟨g, 0, none⟩ = some (.slice A3 L.length c3) := (hb3.cell 0).trans rfl
      have htt := tot_take ws k
      have hgl : g ≤ wr.heap.size := Nat.le_of_lt hb3.lt
      by_cases hkm : k < m
      · obtain ⟨s, hs⟩ : ∃ s, ws[k]? = some s := ⟨_, List.getElem?_eq_getElem (by rw [hm.out]; exact hkm)⟩
        have hcx : wr.cell? ⟨x, k, none⟩ = some (.string ⟨s.toArray⟩) := (hx3.cell k).trans (by simp [hs, strVE])
        have hts := tot_snoc ws k s hs
        have htt1 := tot_take ws (k + 1)
        have HX3 := Lib.hid hx3
        clear hs hx3 hin
        by_cases hk0 : k = 0
        · subst hk0
          go_wp2_with (first
            | ((with_reducible refine at_append ?_); refine wpList_appS wr rfl _ _ rfl g A3 c3 L rfl ho3 s rfl (by omega) hgl ?_; intro A4 c4 w4 ho4 hg4)
            | ((with_reducible refine at_store 73 ?_); refine wpList_pgStore rfl rfl (by kernel_rfl) hT hb3 ho3 (Ext.refl _) hg4 ho4 rfl rfl ?_; intro W5 A5 c5 hb5 ho5 hk5 cc5))
          go_roundw
          case rel => exact ⟨1, by omega, by go_num, L ++ s, by rw [List.length_append]; rw [Nat.zero_add] at hts; omega, by rw [List.length_append]; rw [Nat.zero_add] at hts; omega, ⟨A5, c5, hb5, ho5⟩, hk3.trans hk5⟩
          case measure => simp [intOf]; omega
        · have hkp : 0 < k := by omega
          obtain ⟨L5, HL5⟩ : ∃ L5, Hid (L5 = L ++ [32]) := ⟨_, Lib.hid rfl⟩
          have hl5 : L5.length ≤ L.length + 1 ∧ L.length + 1 ≤ L5.length := by rw [HL5.out]; simp
          obtain ⟨hl5, hl5'⟩ := hl5
          go_wp2_with (first
            | ((with_reducible refine at_buildSlice 73 ?_); refine wpList_runV rfl (Flow.reg_buildSlice #[(0, .int .u8 ((32 : UInt8).toNat : Int))] rfl (by rfl) (run_b1 wr 32)) ?_)
            | ((with_reducible refine at_append ?_); refine wpList_app1 wr elB rfl _ _ rfl g A3 L.length c3 _ rfl ho3 (.int .u8 ((32 : UInt8).toNat : Int)) rfl rfl (by omega) (by omega) hgl ?_; intro A4 c4 w4 ho4 hg4 _)
            | ((with_reducible refine at_append ?_); refine wpList_appS W5 rfl _ _ rfl g A5 c5 L5 rfl ho5 s rfl (by omega) (Nat.le_of_lt hb5.lt) ?_; intro A6 c6 w6 ho6 hg6)
            | ((with_reducible refine at_store 73 ?_); refine wpList_pgStore (l' := L5 ++ s) rfl rfl (by kernel_rfl) hT hb5 ho5 (Ext.refl _) hg6 ho6 rfl rfl ?_; intro W7 A7 c7 hb7 ho7 hk7 cc7)
            | ((with_reducible refine at_store 73 ?_); refine wpList_pgStore (l' := L5) rfl rfl (by kernel_rfl) hT hb3 ho3 (Ext.refl _) hg4 (by rw [HL5.out, bcells_app]; exact ho4) rfl rfl ?_; intro W5 A5 c5 hb5 ho5 hk5 cc5; have hcx5 : W5.cell? ⟨x, k, none⟩ = some (.string ⟨s.toArray⟩) := ((hk5.blk x _ _ hS hxg HX3.out).cell k).trans ((HX3.out.cell k).symm.trans hcx)))
          go_roundw
          case rel => exact ⟨k + 1, by omega, by go_num, L5 ++ s, by rw [List.length_append]; omega, by rw [List.length_append]; omega, ⟨A7, c7, hb7, ho7⟩, (hk3.trans hk5).trans hk7⟩
          case measure => simp [intOf]; omega
      · obtain rfl : k = m := by omega
        have htk : tot (ws.take k) = tot ws := by rw [List.take_of_length_le (by rw [hm.out]; exact Nat.le_refl _)]
        go_wp2_with (first
          | ((with_reducible refine at_buildSlice 73 ?_); refine wpList_runV rfl (Flow.reg_buildSlice #[(0, .int .u8 ((10 : UInt8).toNat : Int))] rfl (by rfl) (run_b1 wr 10)) ?_)
          | ((with_reducible refine at_append ?_); refine wpList_app1 wr elB rfl _ _ rfl g A3 L.length c3 _ rfl ho3 (.int .u8 ((10 : UInt8).toNat : Int)) rfl rfl (by omega) (by omega) hgl ?_; intro A4 c4 w4 ho4 hg4 _)
          | ((with_reducible refine at_store 73 ?_); refine wpList_pgStore (l' := L ++ [10]) rfl rfl (by kernel_rfl) hT hb3 ho3 (Ext.refl _) hg4 (by rw [bcells_app]; exact ho4) rfl rfl ?_; intro W5 A5 c5 hb5 ho5 hk5 cc5))
        go_end0
        exact ⟨rfl, ⟨L ++ [10], by rw [List.length_append]; simp; omega, by rw [List.length_append]; simp; omega, A5, c5, hb5, ho5⟩, hk3.trans hk5⟩
end Go.Proofs.YtpellkblaeeopaaGreatDoor
/-
  Walks for awake35: portreevelaw17.guest, Small.
-/
namespace Go.Proofs.YtpellkblaeeopaaGreatDoor
open Go.RowKit

theorem wp_runR {P : Program} {o : Oper} {Q : Exit → Act → World → Prop} {a : Act} {w w' : World} {v : Value} {K : Act → World → Prop} (h : (execOp a.eval o).run P w = .ok (.value v) w') (hK : K (a.put o.dst v) w') : o.wp P a w K Q := by
  unfold Oper.wp
  rw [h]
  exact hK
/-- a slice of one new element -/
def newS (B : Nat) (t : TypeId) (cs : Array Value) : Reg.Kd := fun v W => ∃ b, v = .slice (some ⟨b, 0, none⟩) 1 1 ∧ Blk W b t cs ∧ B ≤ b
theorem stable_newS (B : Nat) (t : TypeId) (cs : Array Value) : Reg.Stable (newS B t cs) := fun _ _ _ ⟨b, h1, h2, h3⟩ h => ⟨b, h1, h2.ext h, h3⟩
def winC (pa : Nat) : Array Value := #[.int .u64 0, .int .u64 (pa : Int), .int .u64 1048576, .int .i64 7]
def irqC (n cpu : Nat) : Array Value := #[.int .i64 (n : Int), .int .i64 (cpu : Int), .bool false]
def keyL : List UInt8 := [0, 0, 0, 1] ++ List.replicate 64 0
def keyA : Array Value := (bcells keyL).toArray
theorem infKey : (Tryz.prog.info? 58).map (·.size) = some keyA.size := by kernel_rfl
theorem run_win (w : World) (pa : Nat) : (Instr.build 165 #[(0, .int .u64 0), (1, .int .u64 (pa : Int)), (2, .int .u64 1048576), (3, .int .i64 7)]).run Tryz.prog w = .ok (.agg (winC pa)) w := by kernel_rfl
theorem run_irq (w : World) (n cpu : Nat) : (Instr.build 167 #[(0, .int .i64 (n : Int)), (1, .int .i64 (cpu : Int))]).run Tryz.prog w = .ok (.agg (irqC n cpu)) w := by kernel_rfl
theorem elWin : Elem Tryz.prog 116 165 (.agg #[.int .u64 0, .int .u64 0, .int .u64 0, .int .i64 0]) 4 32 := Elem.of (by kernel_rfl) (by kernel_rfl) rfl (by omega)
theorem elIrq : Elem Tryz.prog 118 167 (.agg #[.int .i64 0, .int .i64 0, .bool false]) 3 24 := Elem.of (by kernel_rfl) (by kernel_rfl) rfl (by omega)
theorem elU32 : Elem Tryz.prog 119 51 (.int .u32 0) 1 4 := Elem.of (by kernel_rfl) (by kernel_rfl) rfl (by omega)
theorem run_wins (w : World) (pa : Nat) : (Instr.buildSlice 116 1 #[(0, .agg (winC pa))]).run Tryz.prog w = .ok (.slice (some ⟨w.heap.size, 0, none⟩) 1 1) (w.alloc (.cells (winC pa) 165)) := by
  have := run_buildSlice_all (P := Tryz.prog) w elWin 1 #[(0, .agg (winC pa))] [.agg (winC pa)] rfl rfl (by omega) (by omega) (by intro v hv; rw [List.mem_singleton.1 hv]; rfl)
  simpa [flat, Value.cells, winC] using this
theorem run_irqs (w : World) (n cpu : Nat) : (Instr.buildSlice 118 1 #[(0, .agg (irqC n cpu))]).run Tryz.prog w = .ok (.slice (some ⟨w.heap.size, 0, none⟩) 1 1) (w.alloc (.cells (irqC n cpu) 167)) := by
  have := run_buildSlice_all (P := Tryz.prog) w elIrq 1 #[(0, .agg (irqC n cpu))] [.agg (irqC n cpu)] rfl rfl (by omega) (by omega) (by intro v hv; rw [List.mem_singleton.1 hv]; rfl)
  simpa [flat, Value.cells, irqC] using this
theorem run_strs (w : World) (n : Nat) : (Instr.buildSlice 119 1 #[(0, .int .u32 (n : Int))]).run Tryz.prog w = .ok (.slice (some ⟨w.heap.size, 0, none⟩) 1 1) (w.alloc (.cells #[.int .u32 (n : Int)] 51)) := by
  have := run_buildSlice_all (P := Tryz.prog) w elU32 1 #[(0, .int .u32 (n : Int))] [.int .u32 (n : Int)] rfl rfl (by omega) (by omega) (by intro v hv; rw [List.mem_singleton.1 hv]; rfl)
  simpa [flat, Value.cells] using this
/-- a guest's cells -/
def gstC (nm : ByteArray) (cm b1 b2 b3 : Nat) : Array Value := #[.string nm, .bool false, .int .u32 0, .int .u32 0, .int .u32 (cm : Int), .int .u64 4096, .int .u64 0] ++ keyA ++ #[.slice (some ⟨b1, 0, none⟩) 1 1, .slice none 0 0, .slice (some ⟨b2, 0, none⟩) 1 1, .slice (some ⟨b3, 0, none⟩) 1 1]
theorem run_gst (w : World) (nm : ByteArray) (cm b1 b2 b3 : Nat) : (Instr.build 121 #[(0, .string nm), (4, .int .u32 (cm : Int)), (5, .int .u64 4096), (7, .agg keyA), (8, .slice (some ⟨b1, 0, none⟩) 1 1), (10, .slice (some ⟨b2, 0, none⟩) 1 1), (11, .slice (some ⟨b3, 0, none⟩) 1 1)]).run Tryz.prog w = .ok (.agg (gstC nm cm b1 b2 b3)) w := by kernel_rfl
theorem infGst (nm : ByteArray) (cm b1 b2 b3 : Nat) : (Tryz.prog.info? 121).map (·.size) = some (gstC nm cm b1 b2 b3).size := by kernel_rfl
/-- a guest with its rows -/
def gstK (B : Nat) (nm : ByteArray) (cm pa nq cpu : Nat) : Reg.Kd := fun v W => ∃ b1 b2 b3, v = .agg (gstC nm cm b1 b2 b3) ∧ Blk W b1 165 (winC pa) ∧ Blk W b2 167 (irqC nq cpu) ∧ Blk W b3 51 #[.int .u32 (cpu : Int)] ∧ B ≤ b1 ∧ B ≤ b2 ∧ B ≤ b3
theorem stable_gst (B : Nat) (nm : ByteArray) (cm pa nq cpu : Nat) : Reg.Stable (gstK B nm cm pa nq cpu) := fun _ _ _ ⟨b1, b2, b3, h1, h2, h3, h4, h5⟩ h => ⟨b1, b2, b3, h1, h2.ext h, h3.ext h, h4.ext h, h5⟩
theorem gst_one (nm : ByteArray) (cm b1 b2 b3 : Nat) : ∀ v ∈ (gstC nm cm b1 b2 b3).toList, v.oneCell' = true := by
  intro v hv
  simp only [gstC, Array.toList_append, List.mem_append] at hv
  rcases hv with (hv | hv) | hv
  · simp only [List.mem_cons, List.not_mem_nil, or_false] at hv
    rcases hv with rfl | rfl | rfl | rfl | rfl | rfl | rfl <;> rfl
  · exact bcells_one _ v (by simpa [keyA] using hv)
  · simp only [List.mem_cons, List.not_mem_nil, or_false] at hv
    rcases hv with rfl | rfl | rfl | rfl <;> rfl
set_option maxRecDepth 100000 in
set_option maxHeartbeats 4000000 in
theorem guest_any (nm : ByteArray) (cpu pa cm nq : Nat) (hcpu : cpu < 2) (hcme : cm = 2 ^ cpu) (hnqe : nq = 32 + cpu) (w : World) :
    Calls Tryz.prog 34 #[.string nm, .int .i64 (cpu : Int), .int .u64 (pa : Int), .agg keyA] w fun e w' => ∃ v, e = .returned v ∧ gstK w.heap.size nm cm pa nq cpu v w' ∧ Below w.heap.size w w' := by
  have hcm : IntKind.u32.wrap (2 ^ cpu) = (cm : Int) := by
    rcases (show cpu = 0 ∨ cpu = 1 by omega) with rfl | rfl <;> subst hcme <;> decide
  have hnw : IntKind.i64.wrap (nq : Int) = (nq : Int) := by rw [IntKind.wrap_i64]; omega
  have hcu : IntKind.u32.wrap (cpu : Int) = (cpu : Int) := by
    rcases (show cpu = 0 ∨ cpu = 1 by omega) with rfl | rfl <;> decide
  have hnq2 : (32 : Int) + (cpu : Int) = (nq : Int) := by omega
  have hk0 := (Blk.new w 58 keyA).alloc (.cells Tryz.zeroCells121 121)
  have hz0 := Blk.new (w.alloc (.cells keyA 58)) 121 Tryz.zeroCells121
  rw [World.size_alloc] at hz0
  have B0 := ((Below.refl w.heap.size w).alloc (Nat.le_refl _) (.cells keyA 58)).alloc (by simp) (.cells Tryz.zeroCells121 121)
  clear hcme hnqe
  go_enter Tryz.func34, Tryz.ntmps34
  go_wp2_with fail
  generalize (w.alloc (.cells keyA 58)).alloc (.cells Tryz.zeroCells121 121) = W1 at *
  have hk := hk0
  refine Reg.wp_region_tail 16 [] (by kernel_rfl) (by kernel_rfl) (by kernel_rfl) (by kernel_rfl) (by kernel_rfl) ?_
  refine Reg.pass_old (X := .string nm) 0 (Reg.met_none rfl) (.inl rfl) (by kernel_rfl) (by kernel_rfl) rfl ?_
  refine Reg.pass_old (X := .int .i64 (cpu : Int)) 1 (Reg.met_none rfl) (.inl rfl) (by kernel_rfl) (by kernel_rfl) rfl ?_
  refine Reg.pass_val (.int .u32 (cm : Int)) (Reg.met_none rfl) (fun a W hE hS => ?_) ?_
  · have e0 := Reg.see_new 10 1 hS (by kernel_rfl) (by kernel_rfl) rfl rfl
    go_simp; first | done | exact hcm
  refine Reg.pass_val (.agg keyA) (Reg.met_none rfl) (fun a W hE hS => ?_) ?_
  · have e0 := Reg.see_old 7 hS (by kernel_rfl) (by kernel_rfl) rfl
    exact reg_load 58 _ rfl e0 (hk.drew.ext hE) Tryz.underlying58 rfl infKey
  refine Reg.pass_old (X := .int .u64 (pa : Int)) 2 (Reg.met_none rfl) (.inl rfl) (by kernel_rfl) (by kernel_rfl) rfl ?_
  refine Reg.pass_val (.agg (winC pa)) (Reg.met_none rfl) (fun a W hE hS => ?_) ?_
  · have e0 := Reg.see_new 13 4 hS (by kernel_rfl) (by kernel_rfl) rfl rfl
    exact Flow.reg_build _ rfl (by simp [Act.eval, e0]) (run_win W pa)
  refine Reg.pass_step (newS W1.heap.size 165 (winC pa)) (stable_newS _ _ _) (Reg.met_none rfl) (fun a W hE hS => ?_) ?_
  · have e0 := Reg.see_new 14 5 hS (by kernel_rfl) (by kernel_rfl) rfl rfl
    refine wp_runR (Flow.reg_buildSlice _ rfl (by simp [Act.eval, e0]) (run_wins W pa)) ?_
    exact ⟨_, rfl, (Ext.refl W).alloc _, W.heap.size, rfl, Blk.new _ _ _, hE.size⟩
  refine Reg.pass_old (X := .int .i64 (cpu : Int)) 1 (Reg.met_none rfl) (.inl rfl) (by kernel_rfl) (by kernel_rfl) rfl ?_
  refine Reg.pass_val (.int .i64 (nq : Int)) (Reg.met_none rfl) (fun a W hE hS => ?_) ?_
  · have e0 := Reg.see_new 16 7 hS (by kernel_rfl) (by kernel_rfl) rfl rfl
    go_simp; first | done | exact hnw
  refine Reg.pass_old (X := .int .i64 (cpu : Int)) 1 (Reg.met_none rfl) (.inl rfl) (by kernel_rfl) (by kernel_rfl) rfl ?_
  refine Reg.pass_val (.agg (irqC nq cpu)) (Reg.met_none rfl) (fun a W hE hS => ?_) ?_
  · have e0 := Reg.see_new 17 8 hS (by kernel_rfl) (by kernel_rfl) rfl rfl
    have e1 := Reg.see_new 18 9 hS (by kernel_rfl) (by kernel_rfl) rfl rfl
    exact Flow.reg_build _ rfl (by simp [Act.eval, e0, e1]) (run_irq W nq cpu)
  refine Reg.pass_step (newS W1.heap.size 167 (irqC nq cpu)) (stable_newS _ _ _) (Reg.met_none rfl) (fun a W hE hS => ?_) ?_
  · have e0 := Reg.see_new 19 10 hS (by kernel_rfl) (by kernel_rfl) rfl rfl
    refine wp_runR (Flow.reg_buildSlice _ rfl (by simp [Act.eval, e0]) (run_irqs W nq cpu)) ?_
    exact ⟨_, rfl, (Ext.refl W).alloc _, W.heap.size, rfl, Blk.new _ _ _, hE.size⟩
  refine Reg.pass_old (X := .int .i64 (cpu : Int)) 1 (Reg.met_none rfl) (.inl rfl) (by kernel_rfl) (by kernel_rfl) rfl ?_
  refine Reg.pass_val (.int .u32 (cpu : Int)) (Reg.met_none rfl) (fun a W hE hS => ?_) ?_
  · have e0 := Reg.see_new 21 12 hS (by kernel_rfl) (by kernel_rfl) rfl rfl
    go_simp; first | done | rfl | exact hcu
  refine Reg.pass_step (newS W1.heap.size 51 #[.int .u32 (cpu : Int)]) (stable_newS _ _ _) (Reg.met_none rfl) (fun a W hE hS => ?_) ?_
  · have e0 := Reg.see_new 22 13 hS (by kernel_rfl) (by kernel_rfl) rfl rfl
    refine wp_runR (Flow.reg_buildSlice _ rfl (by simp [Act.eval, e0]) (run_strs W cpu)) ?_
    exact ⟨_, rfl, (Ext.refl W).alloc _, W.heap.size, rfl, Blk.new _ _ _, hE.size⟩
  refine Reg.pass_step (gstK W1.heap.size nm cm pa nq cpu) (stable_gst _ _ _ _ _ _) (Reg.met_none rfl) (fun a W hE hS => ?_) ?_
  · have e0 := Reg.see_new 9 0 hS (by kernel_rfl) (by kernel_rfl) rfl rfl
    have e1 := Reg.see_new 11 2 hS (by kernel_rfl) (by kernel_rfl) rfl rfl
    have e2 := Reg.see_new 12 3 hS (by kernel_rfl) (by kernel_rfl) rfl rfl
    obtain ⟨b3, e3, q3⟩ := Reg.see_kind 15 6 hS (by kernel_rfl) (by kernel_rfl) rfl rfl
    obtain ⟨b4, e4, q4⟩ := Reg.see_kind 20 11 hS (by kernel_rfl) (by kernel_rfl) rfl rfl
    obtain ⟨b5, e5, q5⟩ := Reg.see_kind 23 14 hS (by kernel_rfl) (by kernel_rfl) rfl rfl
    refine wp_runR (Flow.reg_build _ rfl (by simp [Act.eval, e0, e1, e2, e3, e4, e5]) (run_gst W nm cm b3 b4 b5)) ?_
    exact ⟨_, rfl, Ext.refl _, b3, b4, b5, rfl, q3.1, q4.1, q5.1, q3.2, q4.2, q5.2⟩
  refine ⟨(fun i hi => by cases hi), ?_⟩
  refine Reg.tail_end [none, none, none, none, none, none, none, none, none, some 9, some 10, some 11, some 12, some 13, some 14, some 15, some 16, some 17, some 18, some 19, some 20, some 21, some 22, some 23, some 24] (by kernel_rfl) ?_
  intro ff w9 hE hf hfr
  have h9 : ff 9 = _ := hf 9 0 _ (by kernel_rfl) (by decide) rfl
  have h10 : ff 10 = _ := hf 10 1 _ (by kernel_rfl) (by decide) rfl
  have h11 : ff 11 = _ := hf 11 2 _ (by kernel_rfl) (by decide) rfl
  have h12 : ff 12 = _ := hf 12 3 _ (by kernel_rfl) (by decide) rfl
  have h13 : ff 13 = _ := hf 13 4 _ (by kernel_rfl) (by decide) rfl
  have h14 : ff 14 = _ := hf 14 5 _ (by kernel_rfl) (by decide) rfl
  have h16 : ff 16 = _ := hf 16 7 _ (by kernel_rfl) (by decide) rfl
  have h17 : ff 17 = _ := hf 17 8 _ (by kernel_rfl) (by decide) rfl
  have h18 : ff 18 = _ := hf 18 9 _ (by kernel_rfl) (by decide) rfl
  have h19 : ff 19 = _ := hf 19 10 _ (by kernel_rfl) (by decide) rfl
  have h21 : ff 21 = _ := hf 21 12 _ (by kernel_rfl) (by decide) rfl
  have h22 : ff 22 = _ := hf 22 13 _ (by kernel_rfl) (by decide) rfl
  obtain ⟨g124, g224, g324, h24, q24⟩ : (gstK W1.heap.size nm cm pa nq cpu) (ff 24) w9 := hf 24 15 _ (by kernel_rfl) (by decide) rfl
  clear hf hfr 
  have hz9 := hz0.drew.ext hE
  have B9 : Below w.heap.size w w9 := B0.trans ((((Below.refl _ W1).drew).trans (hE.below (Nat.le_refl _))).mono B0.size)
  have hBs := B0.size
  simp only [Reg.sel, h24, List.drop_succ_cons, List.drop_zero]
  go_wp2_with (first
    | ((with_reducible refine at_store 121 ?_); refine wpList_storeAll _ rfl 121 _ _ rfl (w.heap.size + 1) 121 _ (gstC nm cm g124 g224 g324) hz9 rfl (by kernel_rfl) (by kernel_rfl) (infGst _ _ _ _ _) (gst_one _ _ _ _ _) ?_; intro W2 hb2 hg2 hs2))
  have hlz := hz0.lt
  obtain ⟨q1, q2, q3, q4, q5, q6⟩ := q24
  refine bodyPost_ret (results_cellS (cs := gstC nm cm g124 g224 g324) rfl _ _ (w.heap.size + 1) _ _ _ rfl hb2 Tryz.underlying121 rfl (infGst _ _ _ _ _)) rfl ?_
  have hn : ∀ b, W1.heap.size ≤ b → some b ≠ some (w.heap.size + 1) := fun b h e => by have := Option.some.inj e; omega
  exact ⟨_, rfl, ⟨g124, g224, g324, rfl, q1.grown hg2 (fun e => hn _ q4 e), q2.grown hg2 (fun e => hn _ q5 e), q3.grown hg2 (fun e => hn _ q6 e), by omega, by omega, by omega⟩, grown_below B9 hg2 B9.size (by omega)⟩
end Go.Proofs.YtpellkblaeeopaaGreatDoor
/-
  Walks: heights and sizes of kinds (xmss.Height, xmss.Size, portreeveref04.Height); portreevelaw08.awake; the statement XmssKinds.
-/
namespace Go.Proofs.YtpellkblaeeopaaGreatDoor
open Go.RowKit

def hgt (o : Nat) : Nat := if o = 1 then 10 else if o = 2 then 16 else if o = 3 then 20 else 0
def isKind (o : Nat) : Bool := o == 1 || o == 2 || o == 3
theorem mHeight_any (o : Nat) (w : World) : Calls Tryz.prog 131 #[.int .u32 (o : Nat)] w fun e w' => e = .returned (.tuple #[.int .i64 (hgt o : Nat), .bool (isKind o)]) ∧ w = w' := by
  go_enter Tryz.func131, Tryz.ntmps131
  by_cases h1 : o = 1
  · subst h1
    go_wp2
    go_ret2
    exact ⟨rfl, rfl⟩
  by_cases h2 : o = 2
  · subst h2
    go_wp2
    go_ret2
    exact ⟨rfl, rfl⟩
  by_cases h3 : o = 3
  · subst h3
    go_wp2
    go_ret2
    exact ⟨rfl, rfl⟩
  have k1 : (((o : Nat) : Int) == 1) = false := by simp; omega
  have k2 : (((o : Nat) : Int) == 2) = false := by simp; omega
  have k3 : (((o : Nat) : Int) == 3) = false := by simp; omega
  have e1 : hgt o = 0 := by simp [hgt, h1, h2, h3]
  have e2 : isKind o = false := by simp [isKind, h1, h2, h3]
  rw [e1, e2]
  clear h1 h2 h3 e1 e2
  go_wp2
  go_ret2
  exact ⟨rfl, rfl⟩

end Go.Proofs.YtpellkblaeeopaaGreatDoor
/-
  Walks: xmss.KeyOf of bytes without a kind; portreevelaw08.awake.
-/
namespace Go.Proofs.YtpellkblaeeopaaGreatDoor
open Go.RowKit

theorem results_cell_tmp {P : Program} {fn : Func} {p q : Tmp} {ty : TypeId} (h : fn.results = #[.cell p ty, .tmp q]) (tmps : Array Value) (w : World) (g : Nat) (t : TypeId) (cs : Array Value) (fr : Nat × Nat) (d : TypeDesc)
    (hp : tmps.getD p undef = .pointer (some ⟨g, 0, none⟩)) (hg : w.heap[g]? = some (.cells cs t fr))
    (hu : P.underlying ty = some d) (hd : (match d with | .struct _ | .array _ _ => true | _ => false) = true) (hi : (P.info? ty).map (·.size) = some cs.size) :
    (results fn tmps).run P w = .ok (.tuple #[.agg cs, tmps.getD q undef]) w := by
  have hp' : tmps[p]?.getD undef = .pointer (some ⟨g, 0, none⟩) := by simpa using hp
  simp [results, h, hp', asAddr, run_loadVar_row w g t ty cs fr d hg hu hd hi]

end Go.Proofs.YtpellkblaeeopaaGreatDoor
/-
  Walks: xmss.cutter and what it hands out; xmss.signed.may.
-/
namespace Go.Proofs.YtpellkblaeeopaaGreatDoor
open Go.RowKit

theorem cutter_any (A : Option Addr) (n c : Nat) (w : World) : Calls Tryz.prog 132 #[.slice A n c] w fun e w' => e = .returned (.func (.func 139) #[] #[.pointer (some ⟨w.heap.size, 0, none⟩)]) ∧ Blk w' w.heap.size 73 #[.slice A n c] ∧ Ext w w' ∧ w'.heap.size = w.heap.size + 1 := by
  have hb := Blk.new w 73 #[.slice A n c]
  go_enter Tryz.func132, Tryz.ntmps132
  go_wp2
  go_ret
  exact ⟨rfl, hb, (Ext.refl w).alloc _, by simp⟩

/-- what a slice is cut to: k bytes less ahead -/
def CutTo (A A' : Option Addr) (n k : Nat) : Prop := ∀ W B xs, Rd W B 1 A n xs → Rd W B 1 A' (n - k) (xs.drop k)
theorem cutTo_cap {A : Option Addr} {n k c : Nat} (hn : n ≤ c) (e : c = k) : CutTo A A n k := fun W B xs h => by
  have := h.cut (k := k) (cap := c) hn
  rw [if_pos e, Nat.mul_one] at this; exact this
theorem cutTo_on {A : Option Addr} {n k c : Nat} (hk : 0 < k) (hn : n ≤ c) (e : ¬ c = k) : CutTo A (A.map fun x => ⟨x.block, x.off + k, none⟩) n k := fun W B xs h => by
  have := h.cut (k := k) (cap := c) hn
  rw [if_neg e, Nat.mul_one] at this
  have e2 : (fun x : Addr => x.add k) = fun x => ⟨x.block, x.off + k, none⟩ := by
    funext x; unfold Addr.add; rw [if_neg (by omega)]
  rw [e2] at this; exact this

theorem grown_set (w : World) (g i : Nat) (v : Value) : w.grownBy (w.setCell ⟨g, i, none⟩ v) (some g) := ⟨rfl, rfl, rfl, by simp, fun k _ hk => heap_setCell_other w ⟨g, i, none⟩ k v (fun e => hk (by simp [e]))⟩
set_option maxRecDepth 100000 in
set_option maxHeartbeats 1000000 in
theorem cut_any (g : Nat) (A : Option Addr) (n c : Nat) (w : World) (h : Blk w g 73 #[.slice A n c]) (hn : 32 ≤ n) (hc : n ≤ c) :
    Calls Tryz.prog 139 #[.int .i64 32, .pointer (some ⟨g, 0, none⟩)] w fun e w' => ∃ A', CutTo A A' n 32 ∧ e = .returned (.slice A 32 c) ∧
      Blk w' g 73 #[.slice A' (n - 32) (c - 32)] ∧ w.grownBy w' (some g) ∧ w'.heap.size = w.heap.size := by
  have fin : ∀ v, Blk (w.setCell ⟨g, 0, none⟩ v) g 73 #[v] ∧ w.grownBy (w.setCell ⟨g, 0, none⟩ v) (some g) ∧ (w.setCell ⟨g, 0, none⟩ v).heap.size = w.heap.size :=
    fun v => ⟨h.set_ 0 v, grown_set w g 0 v, by simp⟩
  have h1 := h.cell 0
  have h2 := h.frozen 0
  by_cases e : c = 32
  · have hC := cutTo_cap (A := A) (n := n) (k := 32) hc e
    obtain rfl : n = 32 := by omega
    subst e
    go_enter Tryz.func139, Tryz.ntmps139
    go_wp2
    go_ret
    exact ⟨_, hC, rfl, fin _⟩
  · have hC := cutTo_on (A := A) (n := n) (k := 32) (by omega) hc e
    go_enter Tryz.func139, Tryz.ntmps139
    go_wp2
    go_ret
    exact ⟨_, hC, rfl, fin _⟩

end Go.Proofs.YtpellkblaeeopaaGreatDoor
/-
  == on arrays of bytes (api.Node and its kin).
-/
namespace Go.Proofs.YtpellkblaeeopaaGreatDoor
open Go.RowKit

section
variable {P : Program}
end

theorem infNode : (Tryz.prog.info? 229).map (·.size) = some 32 := by kernel_rfl
end Go.Proofs.YtpellkblaeeopaaGreatDoor
