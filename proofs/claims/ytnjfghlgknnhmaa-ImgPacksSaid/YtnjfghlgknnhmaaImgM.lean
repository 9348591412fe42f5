/-
  Plain: the parts of an image. Walk: the closure of img.Split.
-/
import Derived.Test.YtnjfghlgknnhmaaImgL
namespace Go.Proofs.Ytnjfghlgknnhmaa
open Go.RowKit

theorem results_cell_tmp4 {P : Program} {fn : Func} {p q1 q2 q3 q4 : Tmp} {ty : TypeId} (h : fn.results = #[.cell p ty, .tmp q1, .tmp q2, .tmp q3, .tmp q4]) (tmps : Array Value) (w : World) (g : Nat) (t : TypeId) (cs : Array Value) (fr : Nat × Nat) (d : TypeDesc)
    (hp : tmps.getD p undef = .pointer (some ⟨g, 0, none⟩)) (hg : w.heap[g]? = some (.cells cs t fr))
    (hu : P.underlying ty = some d) (hd : (match d with | .struct _ | .array _ _ => true | _ => false) = true) (hi : (P.info? ty).map (·.size) = some cs.size) :
    (results fn tmps).run P w = .ok (.tuple #[.agg cs, tmps.getD q1 undef, tmps.getD q2 undef, tmps.getD q3 undef, tmps.getD q4 undef]) w := by
  have hp' : tmps[p]?.getD undef = .pointer (some ⟨g, 0, none⟩) := by simpa using hp
  simp [results, h, hp', asAddr, run_loadVar_row w g t ty cs fr d hg hu hd hi]

def splGood (l : List UInt8) (o : Nat) : Bool := isKind o && decide (64 + sigSize o ≤ l.length) && hdGood (l.take 64) && decide (l.length - 64 - sigSize o = (hdVal (l.take 64)).size)
def splErr (l : List UInt8) (o : Nat) : Int := if splGood l o then 0 else if isKind o then 150 else 80
def splHd (l : List UInt8) (o : Nat) : Hd := if splGood l o then hdVal (l.take 64) else zhd
def splA (l : List UInt8) (o : Nat) : List UInt8 := if splGood l o then l.take 64 else []
def splB (l : List UInt8) (o : Nat) : List UInt8 := if splGood l o then (l.drop 64).take (sigSize o) else []
def splC (l : List UInt8) (o : Nat) : List UInt8 := if splGood l o then l.drop (64 + sigSize o) else []
def SplRet (w : World) (l : List UInt8) (o : Nat) (e : Ending) (w' : World) : Prop :=
  ∃ A1 c1 A2 c2 A3 c3, e = .returned (.tuple #[.agg (hdCells (splHd l o)).toArray, .slice A1 (splA l o).length c1, .slice A2 (splB l o).length c2, .slice A3 (splC l o).length c3, .int .i64 (splErr l o)]) ∧
    Rd w' w'.heap.size 1 A1 (splA l o).length (bcells (splA l o)) ∧ Rd w' w'.heap.size 1 A2 (splB l o).length (bcells (splB l o)) ∧ Rd w' w'.heap.size 1 A3 (splC l o).length (bcells (splC l o)) ∧ Below w.heap.size w w'
theorem SplRet.bad {w w' : World} {l : List UInt8} {o : Nat} {x : Int} (hg : splGood l o = false) (hx : x = if isKind o then 150 else 80) (B : Below w.heap.size w w') :
    SplRet w l o (.returned (.tuple #[.agg (hdCells zhd).toArray, .slice none 0 0, .slice none 0 0, .slice none 0 0, .int .i64 x])) w' := by
  have e1 : splA l o = [] := by simp [splA, hg]
  have e2 : splB l o = [] := by simp [splB, hg]
  have e3 : splC l o = [] := by simp [splC, hg]
  have e4 : splHd l o = zhd := by simp [splHd, hg]
  have e5 : splErr l o = x := by simp [splErr, hg, hx]
  unfold SplRet
  rw [e1, e2, e3, e4, e5]
  exact ⟨none, 0, none, 0, none, 0, rfl, Rd.nil _ _ _ _, Rd.nil _ _ _ _, Rd.nil _ _ _ _, B⟩

theorem run_slice_nat {P : Program} (w : World) (t : TypeId) (ht : P.underlying t = some (.slice (P.elem t))) (hs : (P.info? (P.elem t)).map (·.size) = some 1) (b off n c f k : Nat) (hf : f + k ≤ c) :
    (Instr.slice t (.slice (some ⟨b, off, none⟩) n c) (some (.int .i64 (f : Int))) (some (.int .i64 ((f + k : Nat) : Int))) none).run P w = .ok (.slice (some (if c = f then ⟨b, off, none⟩ else ⟨b, off + f, none⟩)) k (c - f)) w := by
  obtain ⟨inf, hinf, hsz⟩ := Option.map_eq_some_iff.1 hs
  rw [run_slice_lh w t _ n c ht .i64 .i64 (f : Int) ((f + k : Nat) : Int) (by omega) (by omega) (by omega)]
  have e1 : ((f + k : Nat) : Int).toNat = f + k := by omega
  have e2 : (f : Int).toNat = f := by omega
  rw [e1, e2]
  have es : (sizeOf (P.elem t)).run P w = .ok 1 w := by simp [sizeOf, typeInfo, hinf, hsz]
  rw [es]
  simp only [Result.andThen, sliced, Option.map_some, Nat.mul_one, Addr.add]
  have e3 : f + k - f = k := by omega
  rw [e3]
  by_cases hc : c = f
  · rw [if_pos hc, if_pos hc]
  · rw [if_neg hc, if_neg hc]
    by_cases h0 : f = 0
    · simp [h0]
    · rw [if_neg h0]

theorem run_slice_lo {P : Program} (w : World) (t : TypeId) (ht : P.underlying t = some (.slice (P.elem t))) (hs : (P.info? (P.elem t)).map (·.size) = some 1) (b off n c f : Nat) (F : Int) (hF : F = f) (hf : f ≤ n) :
    (Instr.slice t (.slice (some ⟨b, off, none⟩) n c) (some (.int .i64 F)) none none).run P w = .ok (.slice (some (if c = f then ⟨b, off, none⟩ else ⟨b, off + f, none⟩)) (n - f) (c - f)) w := by
  subst hF
  obtain ⟨inf, hinf, hsz⟩ := Option.map_eq_some_iff.1 hs
  rw [run_slice_l w t _ n c ht .i64 (f : Int) (by omega) (by omega)]
  have e2 : (f : Int).toNat = f := by omega
  rw [e2]
  have es : (sizeOf (P.elem t)).run P w = .ok 1 w := by simp [sizeOf, typeInfo, hinf, hsz]
  rw [es]
  simp only [Result.andThen, sliced, Option.map_some, Nat.mul_one, Addr.add]
  by_cases hc : c = f
  · rw [if_pos hc, if_pos hc]
  · rw [if_neg hc, if_neg hc]
    by_cases h0 : f = 0
    · simp [h0]
    · rw [if_neg h0]
theorem rd_part {w : World} {B b off n c : Nat} {l : List UInt8} (hR : Rd w B 1 (some ⟨b, off, none⟩) n (bcells l)) (hc : n ≤ c) (f k : Nat) (hk : f + k ≤ n) :
    Rd w B 1 (some (if c = f then ⟨b, off, none⟩ else ⟨b, off + f, none⟩)) k (bcells ((l.drop f).take k)) := by
  have h1 := (hR.cut (k := f) hc).front (k := k) (by omega)
  have e1 : ((bcells l).drop (f * 1)).take (k * 1) = bcells ((l.drop f).take k) := by rw [Nat.mul_one, Nat.mul_one]; simp [bcells]
  rw [e1] at h1
  have e2 : (if c = f then (some ⟨b, off, none⟩ : Option Addr) else (some ⟨b, off, none⟩ : Option Addr).map (·.add (f * 1))) = some (if c = f then ⟨b, off, none⟩ else ⟨b, off + f, none⟩) := by
    split
    · rfl
    · simp [Addr.add]
  rw [e2] at h1
  exact h1

set_option maxRecDepth 100000 in
set_option maxHeartbeats 1000000 in
theorem split1_any (g b off n c : Nat) (hc : n ≤ c) (l : List UInt8) (f t : Nat) (hft : f ≤ t) (htn : t ≤ n) (hn : n ≤ 1000000) (w : World)
    (hb : Blk w g 27 #[.slice (some ⟨b, off, none⟩) n c]) (hR : Rd w w.heap.size 1 (some ⟨b, off, none⟩) n (bcells l)) :
    Calls Try.prog 63 #[.int .i64 f, .int .i64 t, .pointer (some ⟨g, 0, none⟩)] w fun e w' =>
      ∃ A' c', e = .returned (.slice A' (t - f) c') ∧ w'.ownsRow w.heap.size 5 1 (.slice A' (t - f) c') (t - f) (bcells ((l.drop f).take (t - f))) ∧ Below w.heap.size w w' := by
  have c0 : w.cell? ⟨g, 0, none⟩ = some (.slice (some ⟨b, off, none⟩) n c) := (hb.cell 0).trans rfl
  have hlen : n = l.length := by have := hR.len; rw [bcells_length] at this; omega
  obtain ⟨k, hk⟩ : ∃ k, k = t - f := ⟨_, rfl⟩
  obtain ⟨X, hX⟩ : ∃ X, X = (l.drop f).take k := ⟨_, rfl⟩
  have hr : Rd w w.heap.size 1 (some (if c = f then ⟨b, off, none⟩ else ⟨b, off + f, none⟩)) k (bcells X) := by
    have h1 := (hR.cut (k := f) hc).front (k := k) (by omega)
    have e1 : ((bcells l).drop (f * 1)).take (k * 1) = bcells X := by rw [hX, Nat.mul_one, Nat.mul_one]; simp [bcells]
    rw [e1] at h1
    have e2 : (if c = f then (some ⟨b, off, none⟩ : Option Addr) else (some ⟨b, off, none⟩ : Option Addr).map (·.add (f * 1))) = some (if c = f then ⟨b, off, none⟩ else ⟨b, off + f, none⟩) := by
      split
      · rfl
      · simp [Addr.add]
    rw [e2] at h1
    exact h1
  have ht : t = f + k := by omega
  have hsl := fun W => run_slice_nat (P := Try.prog) W 27 (by kernel_rfl) (by kernel_rfl) b off n c f k (by omega)
  rw [← ht] at hsl
  rw [← hk, ← hX]
  have hk6 : k ≤ 1000000 := by omega
  have HL := Lib.hid hlen
  clear hX hk hb hlen ht
  generalize (if c = f then (⟨b, off, none⟩ : Addr) else ⟨b, off + f, none⟩) = A0 at hsl hr
  have hbk := Blk.new w 27 #[.slice (some A0) k (c - f)]
  have g1 := cat_any (some ⟨w.heap.size, 0, none⟩) 1 1 [⟨some A0, k, c - f, X⟩] _ (hbk.rd rfl) (by intro x hx; obtain rfl := List.mem_singleton.1 hx; exact (hr.alloc (Nat.le_refl _) _).more (by simp)) (by simp [Bs.tot]; omega) (by omega)
  have e1 : Bs.tot [⟨some A0, k, c - f, X⟩] = k := by simp [Bs.tot]
  have e2 : Bs.all [⟨some A0, k, c - f, X⟩] = X := by simp [Bs.all]
  rw [e1, e2] at g1
  clear hbk hr e1 e2
  go_enter Try.func63, Try.ntmps63
  go_wp2_with fail
  refine g1.mono ?_
  rintro e w' ⟨A', c', rfl, hO, hB⟩
  go_wp2
  go_ret
  exact ⟨A', c', rfl, own_baseI hO (by simp), ((Below.refl _ _).alloc (Nat.le_refl _) _).trans (hB.mono (by simp))⟩
theorem split1' (g b off n c : Nat) (hc : n ≤ c) (l : List UInt8) (F T : Int) (f t : Nat) (hF : F = f) (hT : T = t) (hft : f ≤ t) (htn : t ≤ n) (hn : n ≤ 1000000) (w : World)
    (hb : Blk w g 27 #[.slice (some ⟨b, off, none⟩) n c]) (hR : Rd w w.heap.size 1 (some ⟨b, off, none⟩) n (bcells l)) :
    Calls Try.prog 63 #[.int .i64 F, .int .i64 T, .pointer (some ⟨g, 0, none⟩)] w fun e w' =>
      ∃ A' c', e = .returned (.slice A' (t - f) c') ∧ w'.ownsRow w.heap.size 5 1 (.slice A' (t - f) c') (t - f) (bcells ((l.drop f).take (t - f))) ∧ Below w.heap.size w w' := by
  subst hF hT
  exact split1_any g b off n c hc l f t hft htn hn w hb hR
end Go.Proofs.Ytnjfghlgknnhmaa
