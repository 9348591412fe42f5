/-
  Walk: report's lines.put: words as a line.
-/
import Derived.Test.YtnjfghlgknnhmaaNameA
import Derived.Test.YtnjfghlgknnhmaaFlow
import Derived.Test.YtnjfghlgknnhmaaOwn
namespace Go.Proofs.Ytnjfghlgknnhmaa
open Go.RowKit

/-- the first k words, a space between -/
def jnP (ws : List (List UInt8)) : Nat → List UInt8
  | 0 => []
  | k + 1 => (if k = 0 then [] else jnP ws k ++ [32]) ++ ws[k]?.getD []
def joinWs (ws : List (List UInt8)) : List UInt8 := jnP ws ws.length
theorem jnP_len (ws : List (List UInt8)) (h : ∀ s ∈ ws, s.length ≤ 1000) : ∀ k, (jnP ws k).length ≤ k * 1001
  | 0 => Nat.le_refl _
  | k + 1 => by
    have := jnP_len ws h k
    have h2 : (ws[k]?.getD []).length ≤ 1000 := by
      cases e : ws[k]? with
      | none => simp
      | some s => exact h s (List.mem_of_getElem? e)
    unfold jnP
    split <;> simp <;> omega
theorem grown_setL (w : World) (g k' : Nat) (v : Value) : w.grownBy (w.setCell ⟨g, k', none⟩ v) (some g) := ⟨rfl, rfl, rfl, by simp, fun k _ hk => heap_setCell_other w ⟨g, k', none⟩ k v (fun e => hk (by simp [e]))⟩
theorem elS : Elem Try.prog 80 9 (.string ⟨#[]⟩) 1 16 := Elem.of (by kernel_rfl) (by kernel_rfl) rfl (by omega)
theorem strV_one (l : List (List UInt8)) : ∀ v ∈ l.map strV, v.oneCell' = true := by
  intro v hv; simp at hv; obtain ⟨s, _, rfl⟩ := hv; rfl
theorem run_str1 (w : World) (s : List UInt8) : (Instr.buildSlice 80 1 #[(0, .string ⟨s.toArray⟩)]).run Try.prog w = .ok (.slice (some ⟨w.heap.size, 0, none⟩) 1 1) (w.alloc (.cells #[strV s] 9)) := by
  have := run_buildSlice_all (P := Try.prog) w elS 1 #[(0, .string ⟨s.toArray⟩)] [.string ⟨s.toArray⟩] rfl rfl (by omega) (by omega) (by simp [Value.cells])
  simpa [flat, Value.cells, strV] using this
/-- append(l, s), s laid in a new block ahead -/
theorem wpList_appStr {ops : Array Oper} {rest : List Oper} {o : Oper} {a : Act} {Q : Exit → Act → World → Prop} (W : World) (hgd : o.guard = none) (s x : Operand) (ho : o.op = .call { callee := .builtin .append, args := #[s, x], argTypes := #[80, 80] })
    (base : Nat) (A : Option Addr) (k c : Nat) (ns : List (List UInt8)) (nd : List UInt8) (hs : a.eval s = .slice A k c) (hown : W.ownsRow base 9 1 (.slice A k c) k (ns.map strV))
    (hx : a.eval x = .slice (some ⟨W.heap.size, 0, none⟩) 1 1) (hk : k ≤ 100000) (hbase : base ≤ W.heap.size)
    (h : ∀ A1 c1 W5, W5.ownsRow base 9 1 (.slice A1 (k + 1) c1) (k + 1) ((ns ++ [nd]).map strV) → Chg (fun b => (Value.slice A k c).ownBlock = some b) W W5 → Below base W W5 →
      wpList Try.prog ops Q rest (a.put o.dst (.slice A1 (k + 1) c1)) W5) :
    wpList Try.prog ops Q (o :: rest) a (W.alloc (.cells #[strV nd] 9)) := by
  have hB := Blk.new W 9 #[strV nd]
  refine wpList_app (W.alloc (.cells #[strV nd] 9)) elS hgd s x ho base A k c _ hs (hown.alloc _) _ (some ⟨W.heap.size, 0, none⟩) 1 1 [strV nd] hx
    (by have := hB.rd (size := 1) (n := 1) (by simp); simpa using this) (by simpa using strV_one [nd]) (by omega) (by omega) (by simp; omega) ?_
  intro A1 c1 W5 hO5 hg5 hB5 hob
  refine h A1 c1 W5 (by rw [List.map_append]; exact hO5) ((Chg.of_ext ((Ext.refl W).alloc _)).trans (Chg.grown hg5 fun b hb => hb)) (((Below.refl base W).alloc hbase _).trans hB5)

set_option maxRecDepth 100000 in
set_option maxHeartbeats 2000000 in
theorem put_all (g x base : Nat) (A : Option Addr) (n c : Nat) (ls ws : List (List UInt8)) (w : World) (hb : Blk w g 123 #[.slice A n c]) (hx : Blk w x 9 (ws.map strV).toArray)
    (ho : w.ownsRow base 9 1 (.slice A n c) n (ls.map strV)) (hn : n ≤ 1000) (m : Nat) (hm : Hid (ws.length = m)) (hm1 : m ≤ 100) (hwl : ∀ s ∈ ws, s.length ≤ 1000) (hbg : base ≤ g) :
    Calls Try.prog 64 #[.pointer (some ⟨g, 0, none⟩), .slice (some ⟨x, 0, none⟩) m m] w fun e w' => e = .returned (.tuple #[]) ∧ ∃ A' c', Blk w' g 123 #[.slice A' (n + 1) c'] ∧
      w'.ownsRow base 9 1 (.slice A' (n + 1) c') (n + 1) ((ls ++ [joinWs ws]).map strV) ∧ Below base w w' ∧ ∀ X t cs, t ≠ 9 → X ≠ g → Blk w X t cs → Blk w' X t cs := by
  go_enter Try.func64, Try.ntmps64
  go_wp2_with fail
  go_loop [4, 9] (fun s i => ∃ k : Nat, k ≤ m ∧ i = .int .i64 k ∧ ∃ S : List UInt8, Hid (S = jnP ws k) ∧ s = .string ⟨S.toArray⟩) (fun _ i => m - (intOf i).toNat)
  case atStart => exact ⟨0, Nat.zero_le _, rfl, [], Lib.hid rfl, rfl⟩
  case round =>
    obtain ⟨k, hk, rfl, S, HS, rfl⟩ := hrel
    have hSl : S.length ≤ 100100 := by have := jnP_len ws hwl k; rw [← HS.out] at this; omega
    by_cases hkm : k < m
    · have hkt : k < ws.length := by rw [hm.out]; exact hkm
      have hc := hx.cell k
      rw [List.getElem?_toArray, List.getElem?_map, List.getElem?_eq_getElem hkt, Option.map_some] at hc
      obtain ⟨s, hs⟩ : ∃ s, s = ws[k] := ⟨_, rfl⟩
      rw [← hs] at hc
      simp only [strV] at hc
      have hsl : s.length ≤ 1000 := by rw [hs]; exact hwl _ (List.getElem_mem hkt)
      have Hs := Lib.hid hs
      clear hs
      by_cases hk0 : k = 0
      · subst hk0
        obtain rfl : S = [] := HS.out
        go_wp2
        go_round
        case rel => exact ⟨1, by omega, by go_num, jnP ws 1, Lib.hid rfl, by rw [ByteArray.mk_append_mk]; simp [jnP, List.getElem?_eq_getElem hkt, Hs.out]⟩
        case measure => simp [intOf]; omega
      · have hkp : 0 < k := by omega
        go_wp2
        go_round
        case rel => exact ⟨k + 1, by omega, by go_num, jnP ws (k + 1), Lib.hid rfl, by rw [ByteArray.mk_append_mk, ByteArray.mk_append_mk]; simp [jnP, List.getElem?_eq_getElem hkt, Hs.out, ← HS.out, hk0]⟩
        case measure => simp [intOf]; omega
    · have hke : k = m := by omega
      subst hke
      have hJ : S = joinWs ws := by rw [HS.out, joinWs, hm.out]
      have HJ := Lib.hid hJ
      clear hJ HS hx
      have hn1 : n ≤ 100000 := by omega
      have hwb : base ≤ w.heap.size := Nat.le_trans hbg (Nat.le_of_lt hb.lt)
      have c0 := hb.cell 0
      have hkeep : ∀ X t cs, t ≠ 9 → X ≠ g → Blk w X t cs → ¬ (Value.slice A n c).ownBlock = some X := fun X t cs ht _ hX e => own_ne ho hX ht e rfl
      have hgo : ¬ (Value.slice A n c).ownBlock = some g := fun e => own_ne ho hb (by decide) e rfl
      go_wp2_with first
        | ((with_reducible refine at_buildSlice 80 ?_); refine wpList_runV rfl (Flow.reg_buildSlice #[(0, .string ⟨S.toArray⟩)] rfl ?_ (run_str1 w S)) ?_; (simp [Act.eval]))
        | ((with_reducible refine at_append ?_); refine wpList_appStr w rfl _ _ rfl base A n c ls S rfl ho rfl hn1 hwb ?_; intro A5 c5 W5 hO5 hC5 hB5; have hS5 := hb.chg hC5 hgo)
        | ((with_reducible refine at_store 80 ?_); refine wpList_runS rfl (reg_storeSlice rfl (by kernel_rfl) hS5 rfl rfl (by simp)) ?_)
      have hO6 := own_chg hO5 (Chg.grown (Z := fun b => b = g) (grown_setL W5 g 0 (.slice A5 (n + 1) c5)) (by rintro j h; cases h; rfl)) (fun b hb e => own_ne hO5 hS5 (by decide) hb e)
      have hS6 := hS5.set_ 0 (.slice A5 (n + 1) c5)
      go_end0
      rw [← HJ.out]
      rw [List.map_append] at hO6
      exact ⟨rfl, A5, c5, hS6, hO6, hB5.setCell (p := ⟨g, 0, none⟩) hbg _, fun X t cs ht hX hb => (hb.chg hC5 (hkeep X t cs ht hX hb)).chg (Chg.grown (Z := fun b => b = g) (grown_setL W5 g 0 (.slice A5 (n + 1) c5)) (by rintro j h; cases h; rfl)) hX⟩
theorem put_any (g x base : Nat) (A : Option Addr) (n c : Nat) (ls ws : List (List UInt8)) (w : World) (hb : Blk w g 123 #[.slice A n c]) (hx : Blk w x 9 (ws.map strV).toArray)
    (ho : w.ownsRow base 9 1 (.slice A n c) n (ls.map strV)) (hn : n ≤ 1000) (m : Nat) (hm : Hid (ws.length = m)) (hm1 : m ≤ 100) (hwl : ∀ s ∈ ws, s.length ≤ 1000) (hbg : base ≤ g) :
    Calls Try.prog 64 #[.pointer (some ⟨g, 0, none⟩), .slice (some ⟨x, 0, none⟩) m m] w fun e w' => e = .returned (.tuple #[]) ∧ ∃ A' c', Blk w' g 123 #[.slice A' (n + 1) c'] ∧
      w'.ownsRow base 9 1 (.slice A' (n + 1) c') (n + 1) ((ls ++ [joinWs ws]).map strV) ∧ Below base w w' :=
  (put_all g x base A n c ls ws w hb hx ho hn m hm hm1 hwl hbg).mono fun _ _ ⟨h1, A', c', h2, h3, h4, _⟩ => ⟨h1, A', c', h2, h3, h4⟩
/-- the page, with its lines in memory of its own -/
def Pg (G : Nat) (ls : List (List UInt8)) (w : World) : Prop := ∃ A c, Blk w G 123 #[.slice A ls.length c] ∧ w.ownsRow G 9 1 (.slice A ls.length c) ls.length (ls.map strV)
theorem Pg.ext {G : Nat} {ls : List (List UInt8)} {w w' : World} (h : Pg G ls w) (c : Chg (fun _ => False) w w') : Pg G ls w' := by
  obtain ⟨A, k, h1, h2⟩ := h
  exact ⟨A, k, h1.chg c id, own_chg h2 c (fun _ _ => id)⟩
theorem put_pg (G x : Nat) (ls ws : List (List UInt8)) (w : World) (hp : Pg G ls w) (hx : Blk w x 9 (ws.map strV).toArray) (hn : ls.length ≤ 1000) (m : Nat) (hm : Hid (ws.length = m)) (hm1 : m ≤ 100) (hwl : ∀ s ∈ ws, s.length ≤ 1000) :
    Calls Try.prog 64 #[.pointer (some ⟨G, 0, none⟩), .slice (some ⟨x, 0, none⟩) m m] w fun e w' => e = .returned (.tuple #[]) ∧ Pg G (ls ++ [joinWs ws]) w' ∧ Below G w w' ∧ ∀ X t cs, t ≠ 9 → X ≠ G → Blk w X t cs → Blk w' X t cs := by
  obtain ⟨A, c, h1, h2⟩ := hp
  refine (put_all G x G A ls.length c ls ws w h1 hx h2 hn m hm hm1 hwl (Nat.le_refl _)).mono ?_
  rintro e w' ⟨he, A', c', h3, h4, h5, h6⟩
  exact ⟨he, ⟨A', c', by rw [List.length_append]; exact h3, by rw [List.length_append]; exact h4⟩, h5, h6⟩
end Go.Proofs.Ytnjfghlgknnhmaa
