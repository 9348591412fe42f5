/-
  Plain law: what a key signs by a leaf is taken by its own key.
-/
import Derived.Test.YtgfdjfglfipjfaaDoorXmE
namespace Go.Proofs.YtgfdjfglfipjfaaDoor
open Go.RowKit Sha

/-- the root of a key of one leaf -/
def madeRoot (sec sd : Nd) (q : Nat) (au : List Nd) : Nd := rootV sd (ltLeaf sd q (upto (endN sec sd q (fun _ => 15)) 67)) q au
theorem madeRoot_length (sec sd : Nd) (q : Nat) (au : List Nd) : (madeRoot sec sd q au).length = 32 :=
  rootV_length _ _ _ _ (ltLeaf_length _ _ _ (all32_upto (endN_length sec sd q _) _))

theorem signs_plain (o : Nat) (ho : o < 4294967296) (sec sd : Nd) (hsd : sd.length = 32) (q : Nat) (hq : q < 4294967296) (au : List Nd) (ha : All32 au) (r : Nd) (hr : r.length = 32) (m : List UInt8) (h : ableErr o q au.length = 0) :
    putErr o = 0 ∧ signErr o sec r (madeRoot sec sd q au) sd q au m = 0 ∧ verErr (putVal o (madeRoot sec sd q au) sd) m (signVal o sec r (madeRoot sec sd q au) sd q au m) = 0 ∧
      (signVal o sec r (madeRoot sec sd q au) sd q au m).length ≤ 3000 ∧ (putVal o (madeRoot sec sd q au) sd).length = 68 := by
  have hro := madeRoot_length sec sd q au
  obtain ⟨ro, hro'⟩ : ∃ ro, ro = madeRoot sec sd q au := ⟨_, rfl⟩
  rw [← hro'] at hro ⊢
  have hk : isKind o = true := by
    cases hk : isKind o with
    | true => rfl
    | false => rw [ableErr, if_pos hk] at h; omega
  have hc : au.length = hgt o ∧ q < 2 ^ hgt o := by
    rw [ableErr, if_neg (by simp [hk])] at h
    split at h
    · assumption
    · omega
  obtain ⟨g, hg⟩ : ∃ g, g = signG sec r ro sd q au m := ⟨_, rfl⟩
  have gi : g.i = q := by rw [hg]; rfl
  have gr : g.r = r := by rw [hg]; rfl
  have gau : g.auth = au := by rw [hg]; rfl
  have gots : g.ots = upto (endN sec sd q (digAll (msgH r ro q m))) 67 := by rw [hg]; rfl
  have hml : (msgH r ro q m).length = 32 := keyed_length _ _
  have hlen : g.ots.length = 67 := by rw [gots]; simp [upto]
  have ok : g.ok := ⟨by rw [gi]; exact hq, by rw [gr]; exact hr, by rw [gots]; exact all32_upto (endN_length sec sd q _) _, by rw [gau]; exact ha⟩
  have hput : putOk g o = true := by
    simp only [putOk, may, Bool.and_eq_true, beq_iff_eq, decide_eq_true_eq]
    exact ⟨hk, ⟨hlen, by rw [gau]; exact hc.1⟩, by rw [gi]; exact hc.2⟩
  obtain ⟨b1, b2⟩ := sig_back g ok o hput
  have hsv : signVal o sec r ro sd q au m = sigBytes g := by rw [signVal, if_pos h, ← hg, putSigVal, if_pos hput]
  have hse : signErr o sec r ro sd q au m = 0 := by rw [signErr, if_pos h, ← hg, putSigErr, if_neg (by simp [hk]), if_pos hput]
  have hslen : (sigBytes g).length ≤ 3000 := by
    have hh : hgt o ≤ 20 := by unfold hgt; split <;> (try split) <;> (try split) <;> omega
    rw [sigBytes]
    simp only [List.length_append, putNum_length, flatten_length _ ok.ots, flatten_length _ ok.auth, ok.r, hlen]
    rw [gau]; omega
  refine ⟨by rw [putErr, if_pos hk], hse, ?_, by rw [hsv]; exact hslen, by rw [putVal, if_pos hk]; exact putKey_length o ro sd hro hsd⟩
  rw [hsv, putVal, if_pos hk]
  have hn : rdNum (putKey o ro sd) 0 4 false = o := by
    rw [putKey, rdNum_front _ _ _ _ (by rw [putNum_length]; omega), rdNum_put _ _ _ (by omega)]
  have hko : keyOk (putKey o ro sd) = true := by
    rw [keyOk, putKey_length o ro sd hro hsd, hn, hk]; rfl
  have e1 : kOid (putKey o ro sd) = o := hn
  have e2 : kRoot (putKey o ro sd) = ro := by
    rw [kRoot, putKey, List.drop_left' (putNum_length _ _ _), List.take_left' hro]
  have e3 : kSeed (putKey o ro sd) = sd := by
    rw [kSeed, putKey, ← List.append_assoc, List.drop_left' (by rw [List.length_append, putNum_length, hro])]
  have hso : sigOk (sigBytes g) o = true := by
    cases hs : sigOk (sigBytes g) o with
    | true => rfl
    | false => rw [sigErr, if_neg (by simp [hk]), hs] at b2; simp at b2
  rw [verErr, if_neg (by simp [hko]), e1, e2, e3, if_neg (by simp [hso]), b1]
  have htop : sigTop ro sd m g = ro := by
    rw [sigTop, gi, gr, gau]
    have hp : pubsV g.ots (msgH r ro q m) sd q = upto (endN sec sd q (fun _ => 15)) 67 := by
      rw [pubsV, if_pos hlen, gots, pubs_sign]
    rw [hp, hro']; rfl
  rw [htop]; simp
end Go.Proofs.YtgfdjfglfipjfaaDoor
