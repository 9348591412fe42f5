/-
  == on whole values (structs, arrays) by what they read as.
-/
import Derived.Test.YtjfmgoickokbjaaKit
import Derived.DeepKeys
namespace Go.Proofs.Ytjfmgoickokbjaa
open Go.RowKit
section
variable {P : Program}
theorem keyLits_byte {d : Nat} {e : TypeId} (he : P.underlying e = some (.int .u8)) (c : UInt8) : P.keyLits (d + 1) e [.int .u8 (c.toNat : Int)] = some [.int .u8 (c.toNat : Int)] := by
  have : (Lit.int .u8 (c.toNat : Int)).wf = true := by
    have := c.toNat_lt
    simp [Lit.wf, IntKind.min, IntKind.max, IntKind.bits, IntKind.signed]; omega
  simp [Program.keyLits, he, this]
theorem keyLits_int {d : Nat} {e : TypeId} {k : IntKind} (he : P.underlying e = some (.int k)) (x : Int) (hx : (Lit.int k x).wf = true) : P.keyLits (d + 1) e [.int k x] = some [.int k x] := by
  simp [Program.keyLits, he, hx]
theorem keyLits_string {d : Nat} {e : TypeId} (he : P.underlying e = some .string) (s : ByteArray) (hs : s.size ≤ maxLen) : P.keyLits (d + 1) e [.string s] = some [.string s.data.toList] := by
  simp [Program.keyLits, he, hs]
theorem mapM_some' {α β : Type} (f : α → Option β) (g : α → β) : ∀ (l : List α), (∀ a ∈ l, f a = some (g a)) → l.mapM f = some (l.map g)
  | [], _ => rfl
  | a :: l, h => by simp [List.mapM_cons, h a (by simp), mapM_some' f g l (fun b hb => h b (by simp [hb]))]
theorem keyLits_bytes {d : Nat} {t e : TypeId} {n : Nat} (ht : P.underlying t = some (.array n e)) (he : P.underlying e = some (.int .u8)) (hc : P.cellsOf e = 1) (hn : P.cellsOf t = n) (l : List UInt8) (hl : l.length = n) :
    P.keyLits (d + 2) t (bcells l) = some (l.map fun c => Lit.int .u8 (c.toNat : Int)) := by
  have h1 : ((List.range n).mapM fun i => P.keyLits (d + 1) e (((bcells l).drop (i * 1)).take 1)) = some ((List.range n).map fun i => [Lit.int .u8 ((l[i]?.getD 0).toNat : Int)]) := by
    refine mapM_some' _ _ _ fun i hi => ?_
    have hi' : i < l.length := by rw [hl]; simpa using hi
    have : ((bcells l).drop (i * 1)).take 1 = [.int .u8 ((l[i]?.getD 0).toNat : Int)] := by
      rw [Nat.mul_one, List.drop_eq_getElem_cons (by rw [bcells_length]; exact hi')]
      simp [bcells, hi']
    rw [this, keyLits_byte he]
  unfold Program.keyLits
  simp only [ht, bcells_length, hl, hn, hc, if_true]
  rw [h1]
  simp only [Option.map_some, Option.some.injEq]
  apply List.ext_getElem?
  intro k
  have : (List.map (fun i => [Lit.int .u8 ((l[i]?.getD 0).toNat : Int)]) (List.range n)).flatten = (List.range n).map fun i => Lit.int .u8 ((l[i]?.getD 0).toNat : Int) := by
    generalize List.range n = r
    induction r with
    | nil => rfl
    | cons a r ih => simp [ih]
  rw [this]
  by_cases hk : k < n
  · simp [hk, List.getElem?_eq_getElem (show k < l.length by omega)]
  · simp [hk, List.getElem?_eq_none (show l.length ≤ k by omega)]

/-- a struct's fields, part by part -/
def Fits (P : Program) (d : Nat) : List Field → List (List Value) → List (List Lit) → Nat → Prop
  | [], [], [], _ => True
  | f :: fs, p :: ps, l :: ls, off => f.offset = off ∧ P.cellsOf f.type = p.length ∧ P.keyLits d f.type p = some l ∧ Fits P d fs ps ls (off + p.length)
  | _, _, _, _ => False
theorem fits_mapM {d : Nat} : ∀ (fs : List Field) (ps : List (List Value)) (ls : List (List Lit)) (done : List Value), Fits P d fs ps ls done.length →
    fs.mapM (fun f => P.keyLits d f.type (((done ++ ps.flatten).drop f.offset).take (P.cellsOf f.type))) = some ls
  | [], [], [], _, _ => rfl
  | f :: fs, p :: ps, l :: ls, done, ⟨h1, h2, h3, h4⟩ => by
    have ih := fits_mapM fs ps ls (done ++ p) (by rw [List.length_append]; exact h4)
    rw [List.append_assoc] at ih
    have e : ((done ++ (p :: ps).flatten).drop f.offset).take (P.cellsOf f.type) = p := by
      rw [h1, h2, List.flatten_cons, List.drop_left, List.take_left]
    simp only [List.mapM_cons, e, h3, Option.pure_def, Option.bind_eq_bind, Option.bind_some]
    rw [List.flatten_cons, ih]
    rfl
  | [], _ :: _, _, _, h => by simp [Fits] at h
  | [], [], _ :: _, _, h => by simp [Fits] at h
  | _ :: _, [], _, _, h => by simp [Fits] at h
  | _ :: _, _ :: _, [], _, h => by simp [Fits] at h
theorem fits_nil {d off : Nat} : Fits P d [] [] [] off := trivial
theorem fits_cons {d off : Nat} {f : Field} {fs : List Field} {p : List Value} {ps : List (List Value)} {l : List Lit} {ls : List (List Lit)} (h1 : f.offset = off) (h2 : P.cellsOf f.type = p.length) (h3 : P.keyLits d f.type p = some l)
    (h : Fits P d fs ps ls (off + p.length)) : Fits P d (f :: fs) (p :: ps) (l :: ls) off := ⟨h1, h2, h3, h⟩
theorem keyLits_struct {d : Nat} {t : TypeId} {fs : Array Field} (ht : P.underlying t = some (.struct fs)) (hn : fs.all (·.name != "_") = true) (ps : List (List Value)) (ls : List (List Lit)) (hl : ps.flatten.length = P.cellsOf t)
    (h : Fits P d fs.toList ps ls 0) : P.keyLits (d + 1) t ps.flatten = some ls.flatten := by
  have := fits_mapM fs.toList ps ls [] h
  simp only [List.nil_append] at this
  unfold Program.keyLits
  simp only [ht, hl, hn, and_self, if_true, this, Option.map_some]

theorem run_eql_lits (w : World) {t : TypeId} {m D D' : Nat} (hm : m ≤ 10000) (hk : P.keyTypeAt m t = true) {xs ys : Array Value} {lx ly : List Lit} (fx : (Value.agg xs).formed P t = true) (fy : (Value.agg ys).formed P t = true)
    (hx : P.keyLits D t xs.toList = some lx) (hy : P.keyLits D' t ys.toList = some ly) : ∃ r : Bool, (binOp .eql t (.agg xs) (.agg ys)).run P w = .ok (.bool r) w ∧ (r = true ↔ lx = ly) := by
  obtain ⟨r, hr, hiff⟩ := run_equalIn_deep (P := P) (10000 - m) m t hk w D D' (.agg xs) (.agg ys) lx ly fx fy (by simpa [Value.cells] using hx) (by simpa [Value.cells] using hy)
  rw [show 10000 - m + m = 10000 by omega] at hr
  exact ⟨r, by rw [run_eql_struct, hr]; rfl, hiff⟩
theorem run_eql_self (w : World) {t : TypeId} {m D : Nat} (hm : m ≤ 10000) (hk : P.keyTypeAt m t = true) {xs : Array Value} {lx : List Lit} (fx : (Value.agg xs).formed P t = true)
    (hx : P.keyLits D t xs.toList = some lx) : (binOp .eql t (.agg xs) (.agg xs)).run P w = .ok (.bool true) w := by
  obtain ⟨r, hr, hiff⟩ := run_eql_lits (P := P) w hm hk fx fx hx hx
  rw [hr, hiff.2 rfl]
theorem formed_agg {t : TypeId} {xs : Array Value} {d : TypeDesc} (hu : P.underlying t = some d) (hd : d.isRow = true) (hs : P.cellsOf t = xs.size) : (Value.agg xs).formed P t = true := by
  cases d <;> simp [TypeDesc.isRow] at hd <;> simp [Value.formed, hu, hs]
end
end Go.Proofs.Ytjfmgoickokbjaa
