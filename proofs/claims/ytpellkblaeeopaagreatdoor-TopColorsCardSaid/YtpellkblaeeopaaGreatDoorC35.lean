/-
  Parts: GdI RgL GdJ GdL.
-/
import Derived.Test.YtpellkblaeeopaaGreatDoorC34
import Derived.DeepKeys4
import Derived.Maps.OwnSet
import Derived.Test.YtpellkblaeeopaaGreatDoorC33
import Derived.Test.YtpellkblaeeopaaGreatDoorC32
import Derived.Test.YtpellkblaeeopaaGreatDoorC13
/-
  Maps from places of tables, with an entry for the table of level 2 at 0, and one for that of level 3 at 0.
-/
namespace Go.Proofs.YtpellkblaeeopaaGreatDoor
open Go.RowKit Go.Shelf
open Go.Maps (Keyed)

def K2 : Value := .agg (plcC 2 0)
def K3 : Value := .agg (plcC 3 0)
theorem K23 : K2 ≠ K3 := by unfold K2 K3 plcC; simp
theorem keyP : Keyed Tryz.prog 153 := Keyed.of_law (deep_law_laid (by kernel_rfl) (m := 2) (by omega) (of_decide_eq_true (by kernel_rfl)) (by kernel_rfl) (by rw [Tryz.underlying153]))
theorem keyK2 : ∃ l, keyOf Tryz.prog 153 K2 = some l := Option.isSome_iff_exists.1 (by kernel_rfl)
theorem keyK3 : ∃ l, keyOf Tryz.prog 153 K3 = some l := Option.isSome_iff_exists.1 (by kernel_rfl)
theorem find_at {x : Value} {es : List MapEntry} {j : Nat} {e : MapEntry} (w : World) (hx : ∃ l, keyOf Tryz.prog 153 x = some l) (hes : ∀ e ∈ es, ∃ l, keyOf Tryz.prog 153 e.key = some l)
    (hj : es[j]? = some e) (hk : e.key = x) (hu : ∀ i e', es[i]? = some e' → e'.key = x → i = j) : (Instr.findKey 153 x es).run Tryz.prog w = .ok (some (j, e.val)) w := by
  obtain ⟨l, hl⟩ := hx
  rcases keyP.find w hl es hes with ⟨_, h2⟩ | ⟨i, e', h1, h2, h3⟩
  · exact absurd hk (h2 e (List.mem_of_getElem? hj))
  · obtain rfl := hu i e' h2 h3
    rw [hj] at h2; cases h2
    exact h1
theorem find_no {x : Value} {es : List MapEntry} (w : World) (hx : ∃ l, keyOf Tryz.prog 153 x = some l) (hes : ∀ e ∈ es, ∃ l, keyOf Tryz.prog 153 e.key = some l)
    (hn : ∀ e ∈ es, e.key ≠ x) : (Instr.findKey 153 x es).run Tryz.prog w = .ok none w := by
  obtain ⟨l, hl⟩ := hx
  rcases keyP.find w hl es hes with ⟨h1, _⟩ | ⟨i, e', _, h2, h3⟩
  · exact h1
  · exact absurd h3 (hn e' (List.mem_of_getElem? h2))
/-- the entries: of the place at level 2, then of the one at level 3 -/
def esP (a b : Option Value) : Array MapEntry := match a, b with
  | none, _ => #[]
  | some u, none => #[⟨K2, u, 0⟩]
  | some u, some v => #[⟨K2, u, 0⟩, ⟨K3, v, 1⟩]
/-- a block that is such a map -/
def MapP (w : World) (g : Nat) (a b : Option Value) : Prop := w.heap[g]? = some (.map (esP a b) (esP a b).size)
def setB (w : World) (g : Nat) (o : Obj) : World := { w with heap := w.heap.setIfInBounds g o }
theorem setB_grown (w : World) (g : Nat) (o : Obj) : w.grownBy (setB w g o) (some g) := ⟨rfl, rfl, rfl, by simp [setB], fun k _ hne => by
  have : g ≠ k := fun e => hne (by rw [e])
  simp [setB, Array.getElem?_setIfInBounds_ne this]⟩
theorem setB_same {w : World} {g : Nat} (h : g < w.heap.size) (o : Obj) : (setB w g o).heap[g]? = some o := by simp [setB, h]
theorem MapP.lt {w : World} {g : Nat} {a b : Option Value} (h : MapP w g a b) : g < w.heap.size := (Array.getElem?_eq_some_iff.1 h).1
theorem MapP.chg {w w' : World} {g : Nat} {a b : Option Value} {Z : Nat → Prop} (h : MapP w g a b) (c : Chg Z w w') (hg : ¬ Z g) : MapP w' g a b := (c.block g h.lt hg).trans h
theorem esP_keys (a b : Option Value) : ∀ e ∈ (esP a b).toList, ∃ l, keyOf Tryz.prog 153 e.key = some l := by
  intro e he
  cases a with
  | none => simp [esP] at he
  | some u =>
    cases b with
    | none =>
      simp only [esP, List.mem_singleton] at he
      subst he; exact keyK2
    | some v =>
      simp only [esP, List.mem_cons, List.not_mem_nil, or_false] at he
      rcases he with rfl | rfl
      · exact keyK2
      · exact keyK3
theorem findK2 (w : World) (a b : Option Value) : (Instr.findKey 153 K2 (esP a b).toList).run Tryz.prog w = .ok (a.map fun u => (0, u)) w := by
  cases a with
  | none => exact find_no w keyK2 (esP_keys none b) (by simp [esP])
  | some u =>
    refine find_at (e := ⟨K2, u, 0⟩) w keyK2 (esP_keys (some u) b) (by cases b <;> rfl) rfl ?_
    intro i e' h1 h2
    cases b with
    | none => match i with
      | 0 => rfl
      | i + 1 => simp [esP] at h1
    | some v => match i with
      | 0 => rfl
      | 1 => simp [esP] at h1; subst h1; exact absurd h2.symm K23
      | i + 2 => simp [esP] at h1
theorem findK3 (w : World) (a b : Option Value) (hab : a = none → b = none) : (Instr.findKey 153 K3 (esP a b).toList).run Tryz.prog w = .ok (b.map fun u => (1, u)) w := by
  cases a with
  | none => rw [hab rfl]; exact find_no w keyK3 (esP_keys none none) (by simp [esP])
  | some u =>
    cases b with
    | none => exact find_no w keyK3 (esP_keys (some u) none) (by simp [esP, K23])
    | some v =>
      refine find_at (e := ⟨K3, v, 1⟩) w keyK3 (esP_keys (some u) (some v)) rfl rfl ?_
      intro i e' h1 h2
      match i with
      | 0 => simp [esP] at h1; subst h1; exact absurd h2 K23
      | 1 => rfl
      | i + 2 => simp [esP] at h1
section
variable {w : World} {g : Nat} {a b : Option Value} {t e : TypeId} {z : Value}
theorem checkK2 (w : World) (em : Bool) : (Instr.checkKey em 10000 153 K2).run Tryz.prog w = .ok () w := by obtain ⟨l, hl⟩ := keyK2; exact keyP.check w em hl
theorem checkK3 (w : World) (em : Bool) : (Instr.checkKey em 10000 153 K3).run Tryz.prog w = .ok () w := by obtain ⟨l, hl⟩ := keyK3; exact keyP.check w em hl
theorem stayK2 (w : World) : (Instr.keyThatStays K2 K2).run Tryz.prog w = .ok K2 w := by obtain ⟨l, hl⟩ := keyK2; exact keyP.stays w hl
theorem stayK3 (w : World) : (Instr.keyThatStays K3 K3).run Tryz.prog w = .ok K3 w := by obtain ⟨l, hl⟩ := keyK3; exact keyP.stays w hl
theorem look2 (h : MapP w g a b) (ht : Tryz.prog.underlying t = some (.map 153 e)) (hz : (zeroValue e).run Tryz.prog w = .ok z w) (ok : Bool) :
    (Instr.lookup t (.map (some g)) K2 ok).run Tryz.prog w = .ok (if ok then .tuple #[a.getD z, .bool a.isSome] else a.getD z) w := by
  cases a <;> cases ok <;> simp [Instr.lookup, run_underlying ht, MapKept.run_getObj_map h, checkK2, findK2, hz]
theorem look3 (h : MapP w g a b) (hab : a = none → b = none) (ht : Tryz.prog.underlying t = some (.map 153 e)) (hz : (zeroValue e).run Tryz.prog w = .ok z w) (ok : Bool) :
    (Instr.lookup t (.map (some g)) K3 ok).run Tryz.prog w = .ok (if ok then .tuple #[b.getD z, .bool b.isSome] else b.getD z) w := by
  have hf := findK3 w a b hab
  cases b <;> cases ok <;> simp [Instr.lookup, run_underlying ht, MapKept.run_getObj_map h, checkK3, hf, hz]
theorem mod10 (x : MapEntry) (f : MapEntry → MapEntry) : (#[x] : Array MapEntry).modify 0 f = #[f x] := by simp
theorem mod20 (x y : MapEntry) (f : MapEntry → MapEntry) : (#[x, y] : Array MapEntry).modify 0 f = #[f x, y] := by simp
theorem mod21 (x y : MapEntry) (f : MapEntry → MapEntry) : (#[x, y] : Array MapEntry).modify 1 f = #[x, f y] := by simp
theorem entry2 (h : MapP w g a b) (hab : a = none → b = none) (ht : Tryz.prog.underlying t = some (.map 153 e)) (hz : (zeroValue e).run Tryz.prog w = .ok z w) :
    ∃ w', (Instr.mapEntry t (.map (some g)) K2).run Tryz.prog w = .ok (.tuple #[a.getD z, .int .i64 0]) w' ∧ w.grownBy w' (some g) ∧ MapP w' g (some (a.getD z)) b := by
  refine ⟨setB w g (.map (esP (some (a.getD z)) b) (esP (some (a.getD z)) b).size), ?_, setB_grown _ _ _, setB_same h.lt _⟩
  have hf := findK2 w a b
  cases a with
  | none => rw [hab rfl] at h hf ⊢; simp only [esP] at hf; simp [Instr.mapEntry, run_underlying ht, MapKept.run_getObj_map h, checkK2, hf, hz, MapKept.run_setObj_map _ h, setB, esP, goInt]
  | some u =>
    cases b with
    | none => simp only [esP] at hf; simp [Instr.mapEntry, run_underlying ht, MapKept.run_getObj_map h, checkK2, hf, stayK2, MapKept.run_setObj_map _ h, setB, esP, goInt]
    | some v => simp only [esP] at hf; simp [Instr.mapEntry, run_underlying ht, MapKept.run_getObj_map h, checkK2, hf, stayK2, MapKept.run_setObj_map _ h, setB, esP, goInt]
theorem entry3 {u : Value} (h : MapP w g (some u) b) (ht : Tryz.prog.underlying t = some (.map 153 e)) (hz : (zeroValue e).run Tryz.prog w = .ok z w) :
    ∃ w', (Instr.mapEntry t (.map (some g)) K3).run Tryz.prog w = .ok (.tuple #[b.getD z, .int .i64 1]) w' ∧ w.grownBy w' (some g) ∧ MapP w' g (some u) (some (b.getD z)) := by
  refine ⟨setB w g (.map (esP (some u) (some (b.getD z))) (esP (some u) (some (b.getD z))).size), ?_, setB_grown _ _ _, setB_same h.lt _⟩
  have hf := findK3 w (some u) b (by simp)
  cases b with
  | none => simp only [esP] at hf; simp [Instr.mapEntry, run_underlying ht, MapKept.run_getObj_map h, checkK3, hf, hz, MapKept.run_setObj_map _ h, setB, esP, goInt]
  | some v => simp only [esP] at hf; simp [Instr.mapEntry, run_underlying ht, MapKept.run_getObj_map h, checkK3, hf, stayK3, MapKept.run_setObj_map _ h, setB, esP, goInt]
theorem estore2 {u : Value} (h : MapP w g (some u) b) (v : Value) :
    ∃ w', (Instr.entryStore t (.map (some g)) (.int .i64 0) v).run Tryz.prog w = .ok () w' ∧ w.grownBy w' (some g) ∧ MapP w' g (some v) b := by
  refine ⟨setB w g (.map (esP (some v) b) (esP (some v) b).size), ?_, setB_grown _ _ _, setB_same h.lt _⟩
  have h1 : (#[⟨K2, u, 0⟩] : Array MapEntry).findIdx? (fun e => ((e.born : Nat) : Int) == 0) = some 0 := by simp [List.findIdx?_cons]
  have h2 : ∀ y, (#[⟨K2, u, 0⟩, ⟨K3, y, 1⟩] : Array MapEntry).findIdx? (fun e => ((e.born : Nat) : Int) == 0) = some 0 := fun _ => by simp [List.findIdx?_cons]
  cases b <;> simp only [Instr.entryStore, Sem.run_bind, MapKept.run_getObj_map h, esP, Result.andThen_ok, asInt, asIntOf, Sem.run_pure, h1, h2, mod10, mod20, MapKept.run_setObj_map _ h, setB] <;> rfl
theorem estore3 {u y : Value} (h : MapP w g (some u) (some y)) (v : Value) :
    ∃ w', (Instr.entryStore t (.map (some g)) (.int .i64 1) v).run Tryz.prog w = .ok () w' ∧ w.grownBy w' (some g) ∧ MapP w' g (some u) (some v) := by
  refine ⟨setB w g (.map (esP (some u) (some v)) (esP (some u) (some v)).size), ?_, setB_grown _ _ _, setB_same h.lt _⟩
  have h2 : (#[⟨K2, u, 0⟩, ⟨K3, y, 1⟩] : Array MapEntry).findIdx? (fun e => ((e.born : Nat) : Int) == 1) = some 1 := by simp [List.findIdx?_cons]
  simp only [Instr.entryStore, Sem.run_bind, MapKept.run_getObj_map h, esP, Result.andThen_ok, asInt, asIntOf, Sem.run_pure, h2, mod21, MapKept.run_setObj_map _ h, setB]
  rfl
theorem upd2 (h : MapP w g none none) (ht : Tryz.prog.underlying t = some (.map 153 e)) (v : Value) :
    ∃ w', (Instr.mapUpdate t (.map (some g)) K2 v).run Tryz.prog w = .ok () w' ∧ w.grownBy w' (some g) ∧ MapP w' g (some v) none := by
  refine ⟨setB w g (.map (esP (some v) none) (esP (some v) none).size), ?_, setB_grown _ _ _, setB_same h.lt _⟩
  have hf := findK2 w none none
  simp only [esP] at hf
  simp [Instr.mapUpdate, run_underlying ht, MapKept.run_getObj_map h, checkK2, hf, MapKept.run_setObj_map _ h, setB, esP]
theorem upd3 {u : Value} (h : MapP w g (some u) none) (ht : Tryz.prog.underlying t = some (.map 153 e)) (v : Value) :
    ∃ w', (Instr.mapUpdate t (.map (some g)) K3 v).run Tryz.prog w = .ok () w' ∧ w.grownBy w' (some g) ∧ MapP w' g (some u) (some v) := by
  refine ⟨setB w g (.map (esP (some u) (some v)) (esP (some u) (some v)).size), ?_, setB_grown _ _ _, setB_same h.lt _⟩
  have hf := findK3 w (some u) none (by simp)
  simp only [esP] at hf
  simp [Instr.mapUpdate, run_underlying ht, MapKept.run_getObj_map h, checkK3, hf, MapKept.run_setObj_map _ h, setB, esP]
theorem MapP.new (w : World) : MapP (w.alloc (.map #[] 0)) w.heap.size none none := World.alloc_heap_new w _
theorem lenP (h : MapP w g a b) (ht : Tryz.prog.underlying t = some (.map 153 e)) (ty : TypeId) : (Builtin.len_ #[t] ty #[.map (some g)]).run Tryz.prog w = .ok (.int .i64 ((esP a b).size : Int)) w := by
  simp [Builtin.len_, run_underlying ht, MapKept.run_getObj_map h, goInt]
end
end Go.Proofs.YtpellkblaeeopaaGreatDoor
/-
  The marks that ranges over functions leave where they stand in a loop.
-/
namespace Go.Proofs.YtpellkblaeeopaaGreatDoor
open Go.RowKit
variable {F : Fence} {n : Nat} {P : Program}

def mark (D : Nat) : Deferred := { target := .collected D, args := #[] }
structure Marks (Ds : List Nat) (w : World) : Prop where
  nd : Ds.Nodup
  at_ : ∀ D ∈ Ds, w.heap[D]? = some (.deferred (some []))
theorem Marks.nil (w : World) : Marks [] w := ⟨List.nodup_nil, fun _ h => by cases h⟩
theorem Marks.lt {Ds : List Nat} {w : World} (h : Marks Ds w) : ∀ D ∈ Ds, D < w.heap.size := fun D hD => (Array.getElem?_eq_some_iff.1 (h.at_ D hD)).1
theorem Marks.cons {Ds : List Nat} {w : World} {D : Nat} (h : Marks Ds w) (hD : w.heap[D]? = some (.deferred (some []))) (hn : D ∉ Ds) : Marks (D :: Ds) w :=
  ⟨List.nodup_cons.2 ⟨hn, h.nd⟩, fun x hx => by rcases List.mem_cons.1 hx with rfl | hx; exact hD; exact h.at_ x hx⟩
theorem Marks.keep {Ds : List Nat} {w w' : World} (h : Marks Ds w) (hk : ∀ D ∈ Ds, w'.heap[D]? = w.heap[D]?) : Marks Ds w' := ⟨h.nd, fun D hD => (hk D hD).trans (h.at_ D hD)⟩
theorem Marks.grown {Ds : List Nat} {w w' : World} {row : Option Nat} (h : Marks Ds w) (hg : w.grownBy w' row) (hr : ∀ r, row = some r → r ∉ Ds) : Marks Ds w' :=
  h.keep fun D hD => hg.block D (h.lt D hD) (fun e => hr D e.symm hD)
theorem leaves_marks {fn : Func} {tmps : Array Value} {R : Ending → World → Prop} : ∀ (Ds : List Nat) (w : World), Marks Ds w →
    (∀ w', (w'.os = w.os ∧ w'.tape = w.tape ∧ w'.output = w.output ∧ w'.heap.size = w.heap.size ∧ ∀ b, b ∉ Ds → w'.heap[b]? = w.heap[b]?) → LeavesIn F n P fn tmps R [] .returning w') → LeavesInM F n P fn tmps R (Ds.map mark) .returning w
  | [], w, _, h => h w ⟨rfl, rfl, rfl, rfl, fun _ _ => rfl⟩
  | D :: Ds, w, hM, h => by
    have hD := hM.at_ D (List.mem_cons_self ..)
    have hnd := List.nodup_cons.1 hM.nd
    refine ⟨by simp, .inl ⟨D, w.putObj D (.deferred none), rfl, run_takeDeferred hD, ?_⟩⟩
    refine leaves_marks Ds _ ⟨hnd.2, fun x hx => (World.putObj_heap_other (fun e => by subst e; exact hnd.1 hx)).trans (hM.at_ x (List.mem_cons_of_mem _ hx))⟩ fun w' hw => h w' ?_
    obtain ⟨h1, h2, h3, h4, h5⟩ := hw
    exact ⟨h1, h2, h3, by rw [h4]; simp, fun b hb => (h5 b (fun e => hb (List.mem_cons_of_mem _ e))).trans (World.putObj_heap_other (fun e => by subst e; exact hb (List.mem_cons_self ..)))⟩
end Go.Proofs.YtpellkblaeeopaaGreatDoor
/-
  Walk: table.Need (of parts one behind the other, within the first 2 MiB).
-/
namespace Go.Proofs.YtpellkblaeeopaaGreatDoor
open Go.RowKit Go.Shelf

attribute [local go_sem] Oper.semAt_some

def ints (a : Option Int) : Option Value := a.map fun z => .int .i64 z
/-- a map of counts: at the next step the place at level k is counted -/
def MapG (W : World) (bm k : Nat) : Prop := ∃ a b : Option Int, (a = none → b = none) ∧ (k = 3 → a ≠ none) ∧ MapP W bm (ints a) (ints b)
def MapE (W : World) (bm k : Nat) : Prop := ∃ (a : Int) (b : Option Int), (k = 3 → b ≠ none) ∧ MapP W bm (ints (some a)) (ints b)
theorem MapG.chg {W W' : World} {bm k : Nat} {Z : Nat → Prop} (h : MapG W bm k) (c : Chg Z W W') (hg : ¬ Z bm) : MapG W' bm k := by obtain ⟨a, b, h1, h2, h3⟩ := h; exact ⟨a, b, h1, h2, h3.chg c hg⟩
theorem MapE.chg {W W' : World} {bm k : Nat} {Z : Nat → Prop} (h : MapE W bm k) (c : Chg Z W W') (hg : ¬ Z bm) : MapE W' bm k := by obtain ⟨a, b, h1, h3⟩ := h; exact ⟨a, b, h1, h3.chg c hg⟩
theorem MapE.g {W : World} {bm k k' : Nat} (h : MapE W bm k) : MapG W bm k' := by obtain ⟨a, b, _, h3⟩ := h; exact ⟨some a, b, fun e => (by cases e), fun _ e => (by cases e), h3⟩
theorem MapG.lt {W : World} {bm k : Nat} (h : MapG W bm k) : bm < W.heap.size := by obtain ⟨_, _, _, _, h⟩ := h; exact h.lt
theorem zeroI64 (w : World) : (zeroValue 3).run Tryz.prog w = .ok (.int .i64 0) w := by kernel_rfl
theorem MapG.look {W : World} {bm k : Nat} (hk : k = 2 ∨ k = 3) (h : MapG W bm k) : ∃ z : Int, (Instr.lookup 150 (.map (some bm)) (.agg (plcC k 0)) false).run Tryz.prog W = .ok (.int .i64 z) W := by
  obtain ⟨a, b, h1, h2, h3⟩ := h
  rcases hk with rfl | rfl
  · refine ⟨a.getD 0, (look2 h3 Tryz.underlying150 (zeroI64 W) false).trans ?_⟩
    cases a <;> rfl
  · refine ⟨b.getD 0, (look3 h3 (fun e => by cases a; exact absurd rfl (h2 rfl); cases e) Tryz.underlying150 (zeroI64 W) false).trans ?_⟩
    cases b <;> rfl
theorem MapG.entry {W : World} {bm k : Nat} (hk : k = 2 ∨ k = 3) (h : MapG W bm k) : ∃ (W' : World) (z : Int), (Instr.mapEntry 150 (.map (some bm)) (.agg (plcC k 0))).run Tryz.prog W = .ok (.tuple #[.int .i64 z, .int .i64 ((k : Int) - 2)]) W' ∧ W.grownBy W' (some bm) ∧ MapE W' bm k := by
  obtain ⟨a, b, h1, h2, h3⟩ := h
  rcases hk with rfl | rfl
  · obtain ⟨W', e1, e2, e3⟩ := entry2 h3 (fun e => by cases a with | none => rw [h1 rfl]; rfl | some a => cases e) Tryz.underlying150 (zeroI64 W)
    refine ⟨W', a.getD 0, e1.trans (by cases a <;> rfl), e2, a.getD 0, b, fun e => (by cases e), ?_⟩
    cases a <;> exact e3
  · cases a with
    | none => exact absurd rfl (h2 rfl)
    | some a =>
      obtain ⟨W', e1, e2, e3⟩ := entry3 h3 Tryz.underlying150 (zeroI64 W)
      refine ⟨W', b.getD 0, e1.trans (by cases b <;> rfl), e2, a, some (b.getD 0), fun _ e => (by cases e), ?_⟩
      cases b <;> exact e3
theorem MapE.store {W : World} {bm k : Nat} (hk : k = 2 ∨ k = 3) (h : MapE W bm k) (z : Int) : ∃ W', (Instr.entryStore 150 (.map (some bm)) (.int .i64 ((k : Int) - 2)) (.int .i64 z)).run Tryz.prog W = .ok () W' ∧ W.grownBy W' (some bm) ∧ MapE W' bm k := by
  obtain ⟨a, b, h1, h3⟩ := h
  rcases hk with rfl | rfl
  · obtain ⟨W', e1, e2, e3⟩ := estore2 (t := 150) h3 (.int .i64 z)
    exact ⟨W', e1, e2, z, b, fun e => (by cases e), e3⟩
  · cases b with
    | none => exact absurd rfl (h1 rfl)
    | some b =>
      obtain ⟨W', e1, e2, e3⟩ := estore3 (t := 150) h3 (.int .i64 z)
      exact ⟨W', e1, e2, a, some z, fun _ e => (by cases e), e3⟩
theorem wpListIn_mapNew {F : Fence} {n' : Nat} {P : Program} {ops : Array Oper} {rest : List Oper} {o : Oper} {a : Act} {Q : Exit → Act → World → Prop} (w : World) (hg : o.guard = none) (t : TypeId) (hop : o.op = Op.makeMap t none)
    (h : wpListIn F n' P ops Q rest (a.put o.dst (.map (some w.heap.size))) (w.alloc (.map #[] 0))) : wpListIn F n' P ops Q (o :: rest) a w := by
  refine wpListIn_plain hg fun K hK' => ?_
  unfold Oper.wpIn
  refine ⟨by simp [Oper.about, hop], ?_⟩
  rw [Oper.semAt_plain F _ _ (by rw [hop]; intro c hc'; cases hc')]
  have hrun : (execOp a.eval o).run P w = .ok (.value (.map (some w.heap.size))) (w.alloc (.map #[] 0)) := by
    simp [execOp, hop, Instr.makeMap]
  rw [hrun]
  exact hK' _ _ h
theorem atIn_makeMap {F : Fence} {n : Nat} {P : Program} {ops : Array Oper} {rest : List Oper} {a : Act} {w : World} {Q : Exit → Act → World → Prop} {dst : Option Tmp} {ty : TypeId} {pos : String} {aft : Array Edge} {gd : Option (Nat × Bool)} (t : TypeId) {x : Option Operand}
    (h : wpListIn F n P ops Q (⟨dst, .makeMap t x, ty, pos, aft, gd⟩ :: rest) a w) : wpListIn F n P ops Q (⟨dst, .makeMap t x, ty, pos, aft, gd⟩ :: rest) a w := h
structure NdS (w : World) (bm : Nat) (Ds : List Nat) (W : World) : Prop where
  b4 : Blk W (bm + 1) 150 #[.map (some bm)]
  mp : MapG W bm 2
  B : Below w.heap.size w W
  mks : Marks Ds W
  lo : ∀ D ∈ Ds, bm + 1 < D
theorem NdS.below {w W W' : World} {bm : Nat} {Ds : List Nat} (h : NdS w bm Ds W) (hB : Below W.heap.size W W') : NdS w bm Ds W' := by
  obtain ⟨h1, h2, h3, h4, h5⟩ := h
  exact ⟨h1.below hB h1.lt, h2.chg (Chg.of_below (Z := fun _ => False) hB (fun b h1 h2 => absurd h2 (by omega))) id, h3.trans (hB.mono h3.size), h4.keep (fun D hD => hB.block D (h4.lt D hD)), h5⟩
theorem MapG.grown {W W' : World} {bm k : Nat} {row : Option Nat} (h : MapG W bm k) (hg : W.grownBy W' row) (hr : ∀ r, row = some r → r ≠ bm) : MapG W' bm k := by
  obtain ⟨a, b, h1, h2, h3⟩ := h
  exact ⟨a, b, h1, h2, (hg.block bm h3.lt (fun e => hr bm e.symm rfl)).trans h3⟩
theorem NdS.grown {w W W' : World} {bm B : Nat} {Ds : List Nat} {row : Option Nat} (h : NdS w bm Ds W) (hg : W.grownBy W' row) (hr : ∀ r, row = some r → B ≤ r) (h1 : bm + 1 < B) (h2 : w.heap.size ≤ B) (h3 : ∀ D ∈ Ds, D < B) : NdS w bm Ds W' :=
  ⟨h.b4.grown hg (fun e => by have := hr _ e.symm; omega), h.mp.grown hg (fun r e => by have := hr r e; omega), h.B.grown hg h.B.size (fun r e => by have := hr r e; omega), h.mks.grown hg (fun r e hm => by have := hr r e; have := h3 r hm; omega), h.lo⟩
set_option maxRecDepth 100000 in
set_option maxHeartbeats 4000000 in
theorem need_any (b off n c : Nat) (S : List Sp) (hS : Strs S) (hs2 : sumS S < 2097152) (hn1 : n ≤ 1000000) (w : World) (hR : Rd w w.heap.size 5 (some ⟨b, off, none⟩) n (pcells (mapsFrom 0 S))) :
    Calls Tryz.prog 25 #[.slice (some ⟨b, off, none⟩) n c] w fun e w' => (∃ z : Int, e = .returned (.tuple #[.int .i64 z, .int .i64 0])) ∧ Below w.heap.size w w' := by
  have hgood := rgoodM_any b off n c S hS hn1 w hR
  have hln : S.length = n := by have := hR.len; rw [pcells_length, mapsFrom_length] at this; omega
  have HLN := Lib.hid hln
  have HS := Lib.hid hS
  clear hln hS
  refine (callsIn_wide (n := 6)).1 ?_
  refine callsIn_of_wp_marks Tryz.func25 rfl trivial ?_ rfl
  simp only [Tryz.ntmps25, List.size_toArray, List.length_cons, List.length_nil, Nat.reduceAdd, Nat.reduceSub, Array.replicate_succ, Array.replicate_zero, List.push_toArray, List.append_toArray, List.nil_append, List.cons_append]
  gi_wp2_with fail
  refine ⟨trivial, ((callsIn_wide (n := 5)).2 hgood).mono ?_⟩
  rintro e w0 ⟨rfl, hB0⟩
  clear hgood
  gi_wp2_with ((with_reducible refine atIn_makeMap 150 ?_); refine wpListIn_mapNew _ rfl 150 rfl ?_)
  have hI0 : NdS w w0.heap.size [] ((w0.alloc (.map #[] 0)).alloc (.cells #[.map (some w0.heap.size)] 150)) := by
    have hm := MapP.new w0
    have e1 : Ext (w0.alloc (.map #[] 0)) ((w0.alloc (.map #[] 0)).alloc (.cells #[.map (some w0.heap.size)] 150)) := (Ext.refl _).alloc _
    refine ⟨?_, ⟨none, none, fun h => h, fun h => (by cases h), hm.chg (Chg.of_ext (Z := fun _ => False) e1) id⟩, (hB0.alloc hB0.size _).alloc (by have := hB0.size; simp; omega) _, Marks.nil _, fun _ h => (by cases h)⟩
    have := Blk.new (w0.alloc (.map #[] 0)) 150 #[.map (some w0.heap.size)]
    rw [World.size_alloc] at this; exact this
  have hlo := hB0.size
  obtain ⟨bm, hbm⟩ : ∃ bm, bm = w0.heap.size := ⟨_, rfl⟩
  rw [← hbm] at hI0 hlo ⊢
  generalize (w0.alloc (.map #[] 0)).alloc (.cells #[.map (some bm)] 150) = W0 at *
  clear hbm hB0
  refine wpIn_loop (fun a' wr => ∃ (k : Nat) (Ds : List Nat), k ≤ n ∧ NdS w bm Ds wr ∧ ∃ u6 u17 u18 u19 u20 u21 u22 u23 u24 u40 : Value, a' = { tmps := #[.slice (some ⟨b, off, none⟩) n c, undef, .int .i64 0, .int .i64 0, .pointer (some ⟨bm + 1, 0, none⟩), undef, u6, undef, undef, undef, .slice (some ⟨b, off, none⟩) n c, .bool true, .bool false, .map (some bm), .slice (some ⟨b, off, none⟩) n c, .int .i64 (n : Int), .int .i64 (k : Int), u17, u18, u19, u20, u21, u22, u23, u24, undef, undef, undef, undef, undef, undef, undef, undef, undef, undef, undef, undef, undef, undef, undef, u40, undef, undef, undef], defers := Ds.map mark }) (fun a' _ => n - (intOf (a'.tmps[16]?.getD undef)).toNat) ?start ?round
  case start => exact ⟨0, [], Nat.zero_le _, hI0, _, _, _, _, _, _, _, _, _, _, rfl⟩
  case round =>
    rintro _ wr ⟨k, Ds, hk, hI, u6, u17, u18, u19, u20, u21, u22, u23, u24, u40, rfl⟩
    by_cases hlt : k < n
    · obtain ⟨s, hs⟩ : ∃ s, S[k]? = some s := ⟨_, List.getElem?_eq_getElem (by rw [HLN.out]; exact hlt)⟩
      obtain ⟨hs1, hs2'⟩ := HS.out.pg s (List.mem_of_getElem? hs)
      have hst := sumS_take S k s hs
      have hle := sumS_le S (k + 1)
      have hmk := mapsFrom_get S 0 k
      rw [hs] at hmk
      simp only [Option.map_some, Nat.zero_add] at hmk
      have hrng := rd_map (hR.below hI.B) k _ hmk
      obtain ⟨x, hx⟩ : ∃ x, x = sumS (S.take k) := ⟨_, rfl⟩
      rw [← hx] at hst hrng
      have hxs : x + s.size < 2097152 := by omega
      obtain ⟨q, hq⟩ : ∃ q, s.size = 4096 * q := ⟨s.size / 4096, by simp only [Sp.pages, decide_eq_true_eq] at hs1; omega⟩
      have HQ := Lib.hid hq
      have hq5 : q < 512 := by omega
      have hfew := few_any ⟨x, s.base, s.size⟩ q hq hq5 (by simp only; omega) (by simp only; omega)
      simp only [Mp.cells] at hrng hfew
      have g0 := Blk.new wr 91 (Mp.cells ⟨x, s.base, s.size⟩)
      have hI1 := hI.below ((Below.refl _ _).alloc (Nat.le_refl _) (.cells (Mp.cells ⟨x, s.base, s.size⟩) 91))
      simp only [Mp.cells] at g0 hI1
      have r0 : wr.cell? ⟨b, off + k * 5, none⟩ = some (.int .u64 (x : Int)) := hrng 0 _ rfl
      have r1 : wr.cell? ⟨b, off + k * 5 + 1, none⟩ = some (.int .u64 (s.base : Int)) := hrng 1 _ rfl
      have r2 : wr.cell? ⟨b, off + k * 5 + 2, none⟩ = some (.int .u64 (s.size : Int)) := hrng 2 _ rfl
      have r3 : wr.cell? ⟨b, off + k * 5 + 3, none⟩ = some (.int .i64 3) := hrng 3 _ rfl
      have r4 : wr.cell? ⟨b, off + k * 5 + 4, none⟩ = some (.int .i64 0) := hrng 4 _ rfl
      clear hst hx hle hmk hs hq hrng
      gi_wp2_with fail
      refine ⟨trivial, ((callsIn_wide (n := 5)).2 (hfew _)).mono ?_⟩
      rintro e w1 ⟨rfl, hB1⟩
      have g1 := g0.below hB1 g0.lt
      have hI2 := hI1.below hB1
      obtain ⟨b6, hb6⟩ : ∃ b6, b6 = wr.heap.size := ⟨_, rfl⟩
      rw [← hb6] at g1 ⊢
      have d0 : w1.cell? ⟨b6, 0, none⟩ = some (.int .u64 (x : Int)) := (g1.cell 0).trans rfl
      have d1 : w1.cell? ⟨b6, 1, none⟩ = some (.int .u64 (s.base : Int)) := (g1.cell 1).trans rfl
      have d2 : w1.cell? ⟨b6, 2, none⟩ = some (.int .u64 (s.size : Int)) := (g1.cell 2).trans rfl
      have d3 : w1.cell? ⟨b6, 3, none⟩ = some (.int .i64 3) := (g1.cell 3).trans rfl
      have d4 : w1.cell? ⟨b6, 4, none⟩ = some (.int .i64 0) := (g1.cell 4).trans rfl
      clear hfew g0 hI hI1 hB1 r0 r1 r2 r3 r4 hb6
      gi_wp2_with fail
      refine ⟨trivial, (pieces_in Fence.wide 5 trivial rfl ⟨x, s.base, s.size⟩ _).mono ?_⟩
      rintro e w' ⟨rfl, rfl⟩
      have hI3 := hI2.below ((Below.refl _ _).alloc (Nat.le_refl _) (.cells (Mp.cells ⟨x, s.base, s.size⟩) 91))
      have hb3 := Blk.new w1 91 (Mp.cells ⟨x, s.base, s.size⟩)
      have hs1' : (w1.alloc (.cells (Mp.cells ⟨x, s.base, s.size⟩) 91)).heap.size = w1.heap.size + 1 := by simp
      generalize w1.alloc (.cells (Mp.cells ⟨x, s.base, s.size⟩) 91) = W2 at *
      obtain ⟨pb, hpb⟩ : ∃ pb, pb = w1.heap.size := ⟨_, rfl⟩
      have hpm : bm < w1.heap.size := hI2.mp.lt
      have hp4 := hI2.b4.lt
      have hDl := hI2.mks.lt
      rw [← hpb] at hb3 hs1' hpm hp4 hDl ⊢
      clear hpb hI2 g1 d0 d1 d2 d3 d4
      gi_wp2_with fail
      have hw2 : w.heap.size ≤ pb := by omega
      refine wpIn_rangeFunc_mut rfl (by omega) (gf := 62) (lb := #[.pointer (some ⟨pb, 0, none⟩)]) rfl trivial (enters_of Tryz.func62 (by kernel_rfl) rfl)
        (Zm := fun r => r = pb) (fun r hr => by subst hr; omega) (pieces_stops pb ⟨x, s.base, s.size⟩ q HQ.out hq5 (by simp only; omega) (by simp only; omega) W2 hb3) (fun h k => h.trans k) (fun W l o o' _ h h1 _ => KpM.put h h1) (Below.refl _ _) (fun _ => rfl)
        (fun pre W => NdS w bm Ds W) (fun cc pre W => False)
        (fun s W W' row hs hg hr => hs.grown hg (fun r e => (hr r e).1) (by omega) (by omega) (fun D hD => by have := hDl D hD; omega))
        (fun cc s W W' row hs hg hr => hs) (fun s A B r hs hg hr => hs.grown (B := pb) hg (fun k e => by have := Option.some.inj e; omega) (by omega) (by omega) (fun D hD => by have := hDl D hD; omega)) hI3
        (fun y a' W => ∃ g8, Blk W g8 91 (Mp.cells y.1) ∧ a' = { tmps := #[.slice (some ⟨b, off, none⟩) n c, undef, .int .i64 0, .int .i64 0, .pointer (some ⟨bm + 1, 0, none⟩), undef, .pointer (some ⟨b6, 0, none⟩), .int .i64 3, .pointer (some ⟨g8, 0, none⟩), undef, .slice (some ⟨b, off, none⟩) n c, .bool true, .bool false, .map (some bm), .slice (some ⟨b, off, none⟩) n c, .int .i64 (n : Int), .int .i64 (k : Int), .bool true, .pointer (some ⟨b, off + k * 5, none⟩), .agg #[.int .u64 (x : Int), .int .u64 (s.base : Int), .int .u64 (s.size : Int), .int .i64 3, .int .i64 0], .agg #[.int .u64 (x : Int), .int .u64 (s.base : Int), .int .u64 (s.size : Int), .int .i64 3, .int .i64 0], .bool true, .bool false, .agg #[.int .u64 (x : Int), .int .u64 (s.base : Int), .int .u64 (s.size : Int), .int .i64 3, .int .i64 0], .func (.func 62) #[] #[.pointer (some ⟨pb, 0, none⟩)], .int .i64 3, .agg y.1.cells, undef, undef, undef, undef, undef, undef, undef, undef, undef, undef, undef, undef, undef, u40, undef, undef, undef], defers := [] })
        (fun y a' _ W W' row hs hg hr => by obtain ⟨g8, h1, h2⟩ := hs; exact ⟨g8, blk_keptS h1 hg (fun r e => (hr r e).2), h2⟩) ?assign ?body ?done ?stop
      case assign =>
        rintro ly pre y W K' hI hK
        simp only [pcE, pcEncs, Mp.cells]
        gi_wp2
        refine hK _ _ (KeepsOthers.from (KeepsOthers.alloc _ _) _) (KpM.chg (Z := fun _ => False) (Chg.of_ext ((Ext.refl W).alloc _)) (fun _ h => h.elim)) (hI.below ((Below.refl _ _).alloc (Nat.le_refl _) _)) ⟨W.heap.size, Blk.new W _ _, rfl⟩
      case stop =>
        rintro D c2 pre W hD hpre h hK
        exact h.elim
      case done =>
        rintro D ys W hD _ hI hK
        gi_wp2_with fail
        refine ⟨⟨k + 1, D :: Ds, by omega, ⟨hI.b4, hI.mp, hI.B, hI.mks.cons hK (fun h => by have := hDl D h; omega), fun D' h => by rcases List.mem_cons.1 h with rfl | h; omega; exact hI.lo D' h⟩, _, _, _, _, _, _, _, _, _, _, rfl⟩, ?_⟩
        simp [intOf]; omega
      case body =>
        rintro ly pre y a' wr2 hl ⟨r, hr⟩ hI ⟨g8, hb8, rfl⟩ hlen _
        have hyi : y.1.ipa < 2097152 := by obtain ⟨jj, hjj, hyv⟩ := y.2; rw [hyv]; simp only [pcM]; have := HQ.out; omega
        obtain ⟨yv, hyv⟩ : ∃ yv, yv = y.1 := ⟨_, rfl⟩
        rw [← hyv] at hb8 hyi ⊢
        clear hyv
        have HR := Lib.hid hr
        have HRl := Lib.hid hl
        clear hr hl
        gi_wp2_with fail
        gi_loopw [9] (fun i wr => ∃ kk : Nat, (kk = 2 ∨ kk = 3 ∨ kk = 4) ∧ i = .int .i64 (kk : Int) ∧ NdS w bm Ds wr ∧ (kk = 3 → MapG wr bm 3) ∧ Blk wr g8 91 (Mp.cells yv) ∧ KeepsFrom W2.heap.size wr2 wr ∧ KpM wr2 wr) (fun i _ => 4 - (intOf i).toNat)
        case atStart => exact ⟨2, .inl rfl, rfl, hI, fun h => (by cases h), hb8, KeepsFrom.refl _ _, fun _ _ _ h => h⟩
        case round =>
          obtain ⟨kk, hkk, rfl, hI4, hG3, hb8', hKF, hKM⟩ := hrel
          by_cases hk3 : kk = 4
          · subst hk3
            gi_wp2_with fail
            exact ⟨hs1' ▸ hKF, hKM, hI4⟩
          · have hk23 : kk = 2 ∨ kk = 3 := by omega
            obtain ⟨W1, hW1⟩ : ∃ W1, W1 = wr := ⟨_, rfl⟩
            have hGk : MapG wr bm kk := by
              rcases hk23 with rfl | rfl
              · exact hI4.mp
              · exact hG3 rfl
            have habv : ∀ W, Calls Tryz.prog 59 #[.agg (Mp.cells yv), .int .i64 (kk : Int)] W fun e w' => e = .returned (.agg (plcC kk 0)) ∧ Below W.heap.size W w' := fun W => by
              have := above_any yv (by omega) kk hk23 W
              have e : yv.ipa / lvN (kk - 1) = 0 := by
                rcases hk23 with rfl | rfl
                · rw [lvN_1]; omega
                · rw [lvN_2]; omega
              rwa [e] at this
            have hb4 := hI4.b4
            have h4m : ¬ bm + 1 = bm := by omega
            have h8m : ¬ g8 = bm := fun e => by
              have := hb8'
              obtain ⟨a, b, _, _, h⟩ := hGk
              unfold Blk at this; unfold MapP at h
              rw [e, h] at this; cases this
            have hdl : decide ((kk : Int) ≤ 3) = true := by simp; omega
            subst hW1
            gi_wp2_with fail
            refine Flow.wpIn_region_flowG (Plain.round ly) (by kernel_rfl) [] (fun W => MapG W bm kk) (0) [(6, fun b => b = bm), (8, fun b => b = bm)] [(0, fun W => Blk W (bm + 1) 150 #[.map (some bm)]), (1, fun W => Blk W g8 91 (Mp.cells yv)), (9, fun W => Chg (fun b => b = bm) W1 W)] (by kernel_rfl) (by kernel_rfl) (Nat.zero_le _) (Flow.nz_cons (fun b _ => Nat.zero_le _) (Flow.nz_cons (fun b _ => Nat.zero_le _) Flow.nz_nil)) (Flow.facts_cons (hb4.drew) (Flow.kept_blk id) (Flow.fz_cons (Flow.no_follow (by kernel_rfl)) (Flow.fz_cons (Flow.no_follow (by kernel_rfl)) Flow.fz_nil)) (Flow.facts_cons (hb8'.drew) (Flow.kept_blk id) (Flow.fz_cons (Flow.no_follow (by kernel_rfl)) (Flow.fz_cons (Flow.no_follow (by kernel_rfl)) Flow.fz_nil)) (Flow.facts_cons ((Chg.refl _ _).drew) (fun _ _ c h => h.trans (c.mono (fun _ h => h.elim))) (Flow.fz_cons (fun _ => fun _ _ c h => h.trans c) (Flow.fz_cons (fun _ => fun _ _ c h => h.trans c) Flow.fz_nil)) Flow.facts_nil))) (hGk) ?_
            refine Flow.passG_of (fun _ _ hE h => h.chg (Chg.of_ext (Z := fun _ => False) hE) id) rfl ?_
            refine Flow.pass_val (.map (some bm)) (Flow.met_none rfl) (fun a W hH => ?_) ?_
            · have e0 := Flow.see_old 4 hH.sees (by kernel_rfl) (by kernel_rfl) rfl
              have fa0 : (fun W => Blk W (bm + 1) 150 #[.map (some bm)]) W := hH.fact _ (List.mem_of_getElem? (i := 0) rfl) rfl
              have faG : (fun W => MapG W bm kk) W := hH.fact _ (List.mem_append_right _ (List.mem_singleton.2 rfl)) rfl (by kernel_rfl)
              have cc : World.cell? W ⟨bm + 1, 0, none⟩ = some (.map (some bm)) := (fa0.cell 0).trans rfl; go_simp; first | done | rfl
            refine Flow.go_on ?_
            refine Flow.passG_of (fun _ _ hE h => h.chg (Chg.of_ext (Z := fun _ => False) hE) id) rfl ?_
            refine Flow.pass_val (.agg (Mp.cells yv)) (Flow.met_none rfl) (fun a W hH => ?_) ?_
            · have e0 := Flow.see_old 8 hH.sees (by kernel_rfl) (by kernel_rfl) rfl
              have fa1 : (fun W => Blk W g8 91 (Mp.cells yv)) W := hH.fact _ (List.mem_of_getElem? (i := 1) rfl) rfl
              have faG : (fun W => MapG W bm kk) W := hH.fact _ (List.mem_append_right _ (List.mem_singleton.2 rfl)) rfl (by kernel_rfl)
              exact reg_load 91 _ rfl e0 fa1 Tryz.underlying91 rfl infMap
            refine Flow.go_on ?_
            refine Flow.passG_of (fun _ _ hE h => h.chg (Chg.of_ext (Z := fun _ => False) hE) id) rfl ?_
            refine Flow.pass_old (X := .int .i64 (kk : Int)) 9 (Flow.met_none rfl) (.inl rfl) (by kernel_rfl) (by kernel_rfl) rfl ?_
            refine Flow.go_on ?_
            refine Flow.passG_of (fun _ _ hE h => h.chg (Chg.of_ext (Z := fun _ => False) hE) id) rfl ?_
            refine Flow.pass_step (Reg.eqs (.agg (plcC kk 0))) (fun _ _ => Flow.kept_eqs _ _) (Flow.met_none rfl) (fun a W hH => ?_) ?_
            · have e0 := Flow.see_new 33 1 hH.sees (by kernel_rfl) (by kernel_rfl) rfl rfl
              have e1 := Flow.see_new 34 2 hH.sees (by kernel_rfl) (by kernel_rfl) rfl rfl
              have faG : (fun W => MapG W bm kk) W := hH.fact _ (List.mem_append_right _ (List.mem_singleton.2 rfl)) rfl (by kernel_rfl)
              refine Reg.wp_call rfl Tryz.func59 rfl (by kernel_rfl) (by simp [Act.eval, e0, e1]) (habv W) ?_
              rintro e w' ⟨rfl, hB⟩
              exact ⟨_, rfl, _, rfl, hB, rfl⟩
            refine Flow.go_on ?_
            refine Flow.passG_of (fun _ _ hE h => h.chg (Chg.of_ext (Z := fun _ => False) hE) id) rfl ?_
            refine Flow.pass_gen (fun v W => ∃ z : Int, v = .int .i64 z ∧ True) (Flow.kept_of (fun _ _ _ _ h => h) (Flow.kz_cons (fun _ => fun _ _ _ _ h => h) (Flow.kz_cons (fun _ => fun _ _ _ _ h => h) Flow.kz_nil))) (Flow.met_none rfl) (fun a W hH => ?_) ?_
            · have e0 := Flow.see_new 32 0 hH.sees (by kernel_rfl) (by kernel_rfl) rfl rfl
              have e1 := Flow.see_new 35 3 hH.sees (by kernel_rfl) (by kernel_rfl) rfl rfl
              have faG : (fun W => MapG W bm kk) W := hH.fact _ (List.mem_append_right _ (List.mem_singleton.2 rfl)) rfl (by kernel_rfl)
              obtain ⟨z, hz⟩ := MapG.look hk23 faG
              exact Flow.wp_run (v := .int .i64 z) (by simp [execOp, Act.eval, e0, e1, hz]) ⟨_, rfl, Chg.refl _ _, z, rfl, trivial⟩
            refine Flow.go_on ?_
            refine Flow.passG_of (fun _ _ hE h => h.chg (Chg.of_ext (Z := fun _ => False) hE) id) rfl ?_
            refine Flow.pass_gen (fun v W => ∃ z : Int, v = .int .i64 z ∧ True) (Flow.kept_of (fun _ _ _ _ h => h) (Flow.kz_cons (fun _ => fun _ _ _ _ h => h) (Flow.kz_cons (fun _ => fun _ _ _ _ h => h) Flow.kz_nil))) (Flow.met_none rfl) (fun a W hH => ?_) ?_
            · obtain ⟨z0, e0, q0⟩ := Flow.see_up 36 4 hH.sees (by kernel_rfl) (by kernel_rfl) rfl rfl
              have faG : (fun W => MapG W bm kk) W := hH.fact _ (List.mem_append_right _ (List.mem_singleton.2 rfl)) rfl (by kernel_rfl)
              exact Flow.wp_run (v := .int .i64 (IntKind.i64.wrap (z0 + 1))) (by go_simp) ⟨_, rfl, Chg.refl _ _, _, rfl, trivial⟩
            refine Flow.go_on ?_
            refine Flow.passG_zone ?_
            refine Flow.pass_lin [8] (fun v W => ∃ z : Int, v = .tuple #[.int .i64 z, .int .i64 ((kk : Int) - 2)] ∧ MapE W bm kk) (Flow.kept_lin [8] (fun _ _ _ c ⟨z, h1, h2⟩ => ⟨z, h1, h2.chg c id⟩) (Flow.lz_cons (Flow.no_follow (by kernel_rfl)) (Flow.lz_cons (fun _ => .inl rfl) Flow.lz_nil))) (Flow.met_none rfl) (fun a W hH => ?_) ?_
            · have e0 := Flow.see_new 32 0 hH.sees (by kernel_rfl) (by kernel_rfl) rfl rfl
              have e1 := Flow.see_new 35 3 hH.sees (by kernel_rfl) (by kernel_rfl) rfl rfl
              have faG : (fun W => MapG W bm kk) W := hH.fact _ (List.mem_append_right _ (List.mem_singleton.2 rfl)) rfl (by kernel_rfl)
              obtain ⟨W2, z, hz, hg, hE⟩ := MapG.entry hk23 faG
              exact Flow.wp_run (by simp [execOp, Act.eval, e0, e1, hz]) ⟨_, rfl, Chg.grown hg (fun b e => (Option.some.inj e).symm), z, rfl, hE⟩
            refine Flow.go_onZ (fun _ => fun v w h => by obtain ⟨_, _, h⟩ := h (fun _ => false) (fun _ _ => rfl); exact h.g) ?_
            refine Flow.passG_of (fun _ _ hE h => h.chg (Chg.of_ext (Z := fun _ => False) hE) id) rfl ?_
            refine Flow.pass_val (.int .i64 ((kk : Int) - 2)) (Flow.met_none rfl) (fun a W hH => ?_) ?_
            · obtain ⟨z0, e0, q0⟩ := Flow.see_lin 38 6 hH.sees (by kernel_rfl) (by kernel_rfl) rfl rfl (by kernel_rfl)
              have faG : (fun W => MapG W bm kk) W := hH.fact _ (List.mem_append_right _ (List.mem_singleton.2 rfl)) rfl (by kernel_rfl)
              go_simp; first | done | rfl
            refine Flow.go_on ?_
            refine Flow.passG_zone ?_
            refine Flow.pass_gen (fun _ W => MapE W bm kk) (Flow.kept_of (fun _ _ _ c h => h.chg c id) (Flow.kz_cons (Flow.no_follow (by kernel_rfl)) (Flow.kz_cons (Flow.no_follow (by kernel_rfl)) Flow.kz_nil))) (Flow.met_none rfl) (fun a W hH => ?_) ?_
            · have e0 := Flow.see_new 32 0 hH.sees (by kernel_rfl) (by kernel_rfl) rfl rfl
              have e1 := Flow.see_new 39 7 hH.sees (by kernel_rfl) (by kernel_rfl) rfl rfl
              obtain ⟨z2, e2, q2⟩ := Flow.see_up 37 5 hH.sees (by kernel_rfl) (by kernel_rfl) rfl rfl
              have faG : (fun W => MapG W bm kk) W := hH.fact _ (List.mem_append_right _ (List.mem_singleton.2 rfl)) rfl (by kernel_rfl)
              obtain ⟨_, _, _, hP⟩ := Flow.past_lin 6 hH.past (by kernel_rfl) (by kernel_rfl) rfl (by kernel_rfl)
              obtain ⟨W2, hz, hg, hE⟩ := hP.store hk23 z2
              exact wp_skip (by simp [execOp, Act.eval, e0, e1, e2, hz]) ⟨_, rfl, Chg.grown hg (fun b e => (Option.some.inj e).symm), hE⟩
            refine Flow.go_onZ (fun _ => fun v w h => (h (fun _ => false)).g) ?_
            refine Flow.pass_end [none, none, none, none, none, none, none, none, none, none, none, none, none, none, none, none, none, none, none, none, none, none, none, none, none, none, none, none, none, none, none, none, some 32, some 33, some 34, some 35, some 36, some 37, some 38, some 39, none, none, none, none] (by kernel_rfl) ?_
            intro f gg w9 hB hfa hT hfg
            have F2 : (fun W => Chg (fun b => b = bm) W1 W) w9 := hfa _ (List.mem_of_getElem? (i := 2) rfl) (Nat.le_refl _)
            refine ⟨rfl, ?_⟩
            have hE9 := hT 8 _ (by kernel_rfl) rfl
            have hmap : ∀ b, b = bm → ∀ cs f, W1.heap[b]? ≠ some (.cells cs 91 f) := fun b e cs f h => by
              obtain ⟨a1, a2, _, _, hm⟩ := hGk
              subst e; rw [hm] at h; cases h
            have hbl := hGk.lt
            have hI9 : NdS w bm Ds w9 := ⟨hb4.chg F2 h4m, hE9.g, hI4.B.trans (F2.below (fun b e => by have e : b = bm := e; omega) hI4.B.size), hI4.mks.keep (fun D hD => F2.block D (hI4.mks.lt D hD) (fun e => by have := hI4.lo D hD; have e : D = bm := e; omega)), hI4.lo⟩
            have hb89 := hb8'.chg F2 h8m
            have hKF9 := kf_chg hKF F2 (fun b e => by have e : b = bm := e; omega)
            have hKM9 := hKM.trans (KpM.chg F2 hmap)
            clear hT hfg hfa hB
            simp only [Reg.sel]
            gi_wp2_with fail
            go_roundw
            case rel => exact ⟨kk + 1, by omega, by go_num, hI9, fun _ => hE9.g, hb89, hKF9, hKM9⟩
            case measure => simp [intOf]; omega
    · obtain rfl : k = n := by omega
      obtain ⟨b4, ⟨a1, a2, _, _, hm⟩, hB, hmks, hlo2⟩ := hI
      have c4 : wr.cell? ⟨bm + 1, 0, none⟩ = some (.map (some bm)) := (b4.cell 0).trans rfl
      have hlen := lenP hm Tryz.underlying150
      gi_wp2_with fail
      refine leaves_marks Ds wr hmks fun w' hw' => ?_
      obtain ⟨e1, e2, e3, e4, e5⟩ := hw'
      refine ⟨_, results_tmp2 rfl _ _ _, ⟨_, rfl⟩, e1.trans hB.os, e2.trans hB.tape, e3.trans hB.output, by rw [e4]; exact hB.size, fun b hb => (e5 b (fun h => by have := hlo2 b h; omega)).trans (hB.block b hb)⟩
end Go.Proofs.YtpellkblaeeopaaGreatDoor
/-
  Plain: words of memory; the tables of a guest of pages. What a builder of tables has done.
-/
namespace Go.Proofs.YtpellkblaeeopaaGreatDoor
open Go.RowKit

def W64 (m : Mm) (a : Nat) : Nat := rdNum (readM m a 8) 0 8 true
theorem w64_same (m : Mm) (a x : Nat) (hx : x < 18446744073709551616) : W64 (writeM m a (putNum x 8 true)) a = x := by
  have h := readM_write m a (putNum x 8 true)
  rw [putNum_length] at h
  rw [W64, h]; exact (rd_putNum x hx).1
theorem w64_eq {m m' : Mm} {a : Nat} (h : ∀ i, i < 8 → m' (a + i) = m (a + i)) : W64 m' a = W64 m a := by
  have e : readM m' a 8 = readM m a 8 := by
    unfold readM
    exact List.map_congr_left fun i hi => h i (List.mem_range.1 hi)
  rw [W64, e]; rfl
theorem w64_other (m : Mm) (a b x : Nat) (h : b + 8 ≤ a ∨ a + 8 ≤ b) : W64 (writeM m a (putNum x 8 true)) b = W64 m b :=
  w64_eq fun i hi => writeM_out _ _ _ _ (by rw [putNum_length]; omega)
theorem w64_clr (m : Mm) (s : Sp) (b : Nat) (h : b + 8 ≤ s.base ∨ s.base + s.size ≤ b) : W64 (clrM m s) b = W64 m b :=
  w64_eq fun i hi => by
    unfold clrM
    have : s.has (b + i) = false := by
      unfold Sp.has
      exact decide_eq_false (by omega)
    simp [this]
/-- the memory, and the page k of it -/
def ramT : Sp := ⟨1073741824, 67108864⟩
def pgA (k : Nat) : Nat := 1073741824 + k * 4096
theorem ask_ram {a n : Nat} (h1 : 1073741824 ≤ a) (h2 : a + n ≤ 1140850688) (h3 : n ≤ 1048576) : askErr ramT a n = 0 := by
  unfold askErr
  rw [if_neg (by omega)]
  have : 0 < n → (Sp.mk a n).within ramT = true := fun h => by
    unfold Sp.within ramT
    refine decide_eq_true ⟨Sp.good_iff.2 ⟨h, by simp only; omega⟩, Sp.good_iff.2 (by simp only; omega), h1, by simp only; omega⟩
  by_cases hn : 0 < n
  · rw [if_neg (by simp [this hn])]
  · rw [if_neg (by simp [hn])]
theorem mput_ram {a : Nat} (h1 : 1073741824 ≤ a) (h2 : a + 8 ≤ 1140850688) (h8 : a % 8 = 0) : mputErr ramT a = 0 := by rw [mputErr, if_pos h8, ask_ram h1 h2 (by omega)]
theorem putV_ram {m : Mm} {a x : Nat} (h1 : 1073741824 ≤ a) (h2 : a + 8 ≤ 1140850688) (h8 : a % 8 = 0) : putV ramT m a x = writeM m a (putNum x 8 true) := by
  rw [putV, if_pos h8, writeV, putNum_length, if_pos (ask_ram h1 h2 (by omega))]
theorem word_ram {m : Mm} {a : Nat} (h1 : 1073741824 ≤ a) (h2 : a + 8 ≤ 1140850688) (h8 : a % 8 = 0) : wordErr ramT a = 0 ∧ wordV ramT m a = W64 m a := by
  rw [wordErr, wordV, if_pos ⟨h8, ask_ram h1 h2 (by omega)⟩, if_pos ⟨h8, ask_ram h1 h2 (by omega)⟩]; exact ⟨rfl, rfl⟩
theorem z_ram (m : Mm) {k n : Nat} (h : k + n ≤ 255) (hn : 1 ≤ n) : zErr ramT (zSp k n) = 0 ∧ zV ramT m (zSp k n) = clrM m (zSp k n) := by
  have : (zSp k n).within ramT = true := by
    unfold Sp.within ramT zSp
    exact decide_eq_true ⟨Sp.good_iff.2 ⟨by simp only; omega, by simp only; omega⟩, Sp.good_iff.2 (by simp only; omega), by simp only; omega, by simp only; omega⟩
  rw [zErr, zV, if_pos this, if_pos this]; exact ⟨rfl, rfl⟩
/-- blocks that hold no part -/
def NoM (W : World) (b : Nat) : Prop := ∀ cs f, W.heap[b]? ≠ some (.cells cs 91 f)
theorem blk_noM {W : World} {b : Nat} {t : TypeId} {cs : Array Value} (h : Blk W b t cs) (ht : t ≠ 91) : NoM W b := fun cs' f e => by
  unfold Blk at h
  rw [h] at e
  injection e with e; injection e with _ e; exact ht e
theorem PMem.tight {w : World} {p : Nat} {ram : Sp} {m : Mm} {F : Nat → Prop} {N : Nat} (h : PMem w p ram m F N) : ∃ F0, PMem w p ram m F0 N ∧ (∀ b, F0 b → F b) ∧ ∀ b, F0 b → NoM w b := by
  obtain ⟨bm, D, pg, h⟩ := h
  refine ⟨fun b => b = p ∨ b = bm ∨ ∃ k, pg k = some b, ⟨bm, D, pg, h.blk, h.own, h.at_, fun k g hk => ⟨(h.rows k g hk).1, .inr (.inr ⟨k, hk⟩), (h.rows k g hk).2.2⟩, h.zero, h.inj, .inl rfl, .inr (.inl rfl), ?_⟩, ?_, ?_⟩
  · rintro b (rfl | rfl | ⟨k, hk⟩)
    · exact h.flt _ h.fp
    · exact h.flt _ h.fm
    · exact h.flt _ (h.rows k b hk).2.1
  · rintro b (rfl | rfl | ⟨k, hk⟩)
    · exact h.fp
    · exact h.fm
    · exact (h.rows k b hk).2.1
  · rintro b (rfl | rfl | ⟨k, hk⟩)
    · exact blk_noM h.blk (by decide)
    · intro cs f e
      obtain ⟨es, clock, h1, _⟩ := h.own
      rw [h1] at e; cases e
    · exact blk_noM (h.rows k b hk).1 (by decide)
theorem PoolW.tight {w : World} {g k : Nat} {Q : Nat → Prop} (h : PoolW w g k Q) : ∃ Q0, PoolW w g k Q0 ∧ (∀ b, Q0 b → Q b) ∧ ∀ b, Q0 b → NoM w b := by
  obtain ⟨h1, ⟨A, c, h2, h3, h4⟩, h5, h6⟩ := h
  refine ⟨fun b => b = g ∨ (Value.slice A (usedL k).length c).ownBlock = some b, ⟨h1, ⟨A, c, h2, h3, fun b hb => .inr hb⟩, .inl rfl, ?_⟩, ?_, ?_⟩
  · rintro b (rfl | hb)
    · exact h6 _ h5
    · exact h6 _ (h4 b hb)
  · rintro b (rfl | hb)
    · exact h5
    · exact h4 b hb
  · rintro b (rfl | hb)
    · exact blk_noM h2 (by decide)
    · rcases h3.2 with ⟨e, _⟩ | ⟨g', cap, cur, e, _, hh, _⟩
      · rw [e] at hb; cases hb
      · rw [e] at hb
        cases hb
        exact blk_noM (t := 25) hh (by decide)
/-- behind j pieces (of pages pas 0, pas 1 ..): the tables at the pages k0 .. of memory m -/
structure TabM (m : Mm) (k0 j : Nat) (pas : Nat → Nat) : Prop where
  one : W64 m (pgA k0) = pgA (k0 + 2) + 3
  two : W64 m (pgA (k0 + 2)) = pgA (k0 + 3) + 3
  leaf : ∀ i, i < j → W64 m (pgA (k0 + 3) + 8 * i) = leafW 3 (pas i) 3 0
end Go.Proofs.YtpellkblaeeopaaGreatDoor
