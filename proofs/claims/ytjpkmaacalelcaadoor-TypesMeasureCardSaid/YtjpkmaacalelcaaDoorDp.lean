/- Structs that may be: where their fields lie, plainly (law24). -/
import Derived.Test.YtjpkmaacalelcaaDoorD4
set_option linter.unusedSimpArgs false
set_option linter.unusedVariables false
set_option linter.unusedSectionVars false
set_option linter.unnecessarySimpa false
set_option maxRecDepth 100000
namespace Go.Proofs.YtjpkmaacalelcaaDoor
open Go.Ty

theorem layS_get (W : Nat → Nat × Nat) : ∀ (fs : List Ty.Fd) (a i : Nat) (h : i < fs.length), (layS W fs a).1.getD i 0 = upN (layS W (fs.take i) a).2.2 (ofM W fs[i].t).2
  | f :: fs, a, 0, _ => by
    unfold layS
    rfl
  | f :: fs, a, i + 1, h => by
    rw [List.take_succ_cons]
    unfold layS
    rw [List.getD_cons_succ, layS_get W fs _ i (by simpa using h)]
    rfl
theorem maxA_snoc (l : List (Nat × Nat)) (x : Nat × Nat) : maxA (l ++ [x]) = max (maxA l) x.2 := by
  unfold maxA
  rw [List.foldl_append]
  rfl
def endAt (l : List St) (s i : Nat) : Nat := (layS (whole l) ((fieldsAt l s).take i) 0).2.2
def mostAt (l : List St) (s i : Nat) : Nat := max 1 (maxA (((fieldsAt l s).take i).map fun f => ofM (whole l) f.t))
theorem endAt_zero (l : List St) (s : Nat) : endAt l s 0 = 0 := by unfold endAt; rw [List.take_zero]; rfl
theorem mostAt_zero (l : List St) (s : Nat) : mostAt l s 0 = 1 := by unfold mostAt; rw [List.take_zero]; rfl
theorem endAt_succ (l : List St) (s i : Nat) (h : i < (fieldsAt l s).length) : endAt l s (i + 1) = min (upN (endAt l s i) (ofM (whole l) (fieldsAt l s)[i].t).2 + (ofM (whole l) (fieldsAt l s)[i].t).1) 8193 := by
  unfold endAt
  rw [List.take_succ_eq_append_getElem h, layS_snoc]
theorem mostAt_succ (l : List St) (s i : Nat) (h : i < (fieldsAt l s).length) : mostAt l s (i + 1) = max (mostAt l s i) (ofM (whole l) (fieldsAt l s)[i].t).2 := by
  unfold mostAt
  rw [List.take_succ_eq_append_getElem h, List.map_append, List.map_singleton, maxA_snoc]
  omega
theorem endAt_cap (l : List St) (s i : Nat) : endAt l s i ≤ 8193 := layS_end _ _ _ (by omega)
theorem upN_ge' (n k : Nat) (hk : 1 ≤ k) : n ≤ upN n k := by
  unfold upN
  have h1 := Nat.div_add_mod (n + k - 1) k
  have h2 := Nat.mod_lt (n + k - 1) (show 0 < k by omega)
  rw [Nat.mul_comm] at h1
  omega
theorem upN_lt' (n k : Nat) (hk : 1 ≤ k) : upN n k < n + k := by
  have := upN_le n k hk
  omega
theorem upN_mod' (n k : Nat) : upN n k % k = 0 := by unfold upN; exact Nat.mul_mod_left _ _

/-- structs that may be: soundness, sizes that fit -/
structure Fits (l : List St) : Prop where
  sound : Sound l
  all : soundB l = true
  fit : ∀ i, i < l.length → (whole l i).1 ≤ 8192
theorem fits_of {l : List St} (h : structsE l = 0) : Fits l := ⟨sound_of (structsE_ok.1 h).1, (structsE_ok.1 h).1, fitB_at (structsE_ok.1 h).2⟩
theorem Fits.field {l : List St} (h : Fits l) {s i : Nat} (hi : i < (fieldsAt l s).length) : shapedB l.length (fieldsAt l s)[i].t = true ∧ 1 ≤ (ofM (whole l) (fieldsAt l s)[i].t).2 ∧ (ofM (whole l) (fieldsAt l s)[i].t).2 ≤ 8 := by
  have h1 := h.sound.sh s _ (List.getElem_mem hi)
  exact ⟨h1, h.sound.of_al h1⟩
theorem end_step {l : List St} (h : Fits l) {s i : Nat} (hi : i < (fieldsAt l s).length) : endAt l s i ≤ endAt l s (i + 1) := by
  have h1 := endAt_succ l s i hi
  have h2 := endAt_cap l s i
  have h3 := upN_ge' (endAt l s i) _ (h.field hi).2.1
  omega
theorem end_all {l : List St} (h : Fits l) {s : Nat} : ∀ (d i : Nat), i + d = (fieldsAt l s).length → endAt l s i ≤ endAt l s (fieldsAt l s).length
  | 0, i, e => by rw [Nat.add_zero] at e; rw [e]; omega
  | d + 1, i, e => by
    have h1 := end_step h (s := s) (i := i) (show i < (fieldsAt l s).length by omega)
    have h2 := end_all h (s := s) d (i + 1) (by omega)
    omega
theorem whole_fit {l : List St} (h : Fits l) {s : Nat} (hs : s < l.length) :
    (whole l s).1 = upN (endAt l s (fieldsAt l s).length) (whole l s).2 ∧ (whole l s).2 = mostAt l s (fieldsAt l s).length ∧ 1 ≤ (whole l s).2 ∧ (whole l s).2 ≤ 8 ∧ endAt l s (fieldsAt l s).length ≤ (whole l s).1 ∧ (whole l s).1 ≤ 8192 := by
  have h1 := whole_eq h.sound.down s
  have h2 := h.sound.al hs
  have h3 := h.fit s hs
  have e1 : endAt l s (fieldsAt l s).length = (layS (whole l) (fieldsAt l s) 0).2.2 := by unfold endAt; rw [List.take_length]
  have e2 : (whole l s).2 = maxA ((fieldsAt l s).map fun f => ofM (whole l) f.t) := by rw [h1]; unfold layM; rw [layS_ms]
  have e3 : mostAt l s (fieldsAt l s).length = max 1 (whole l s).2 := by unfold mostAt; rw [List.take_length, ← e2]
  have e4 : (whole l s).1 = min (upN (layS (whole l) (fieldsAt l s) 0).2.2 (whole l s).2) 8193 := by
    have : (whole l s).2 = maxA (layS (whole l) (fieldsAt l s) 0).2.1 := by rw [e2, layS_ms]
    rw [this]
    conv => lhs; rw [h1]
    rfl
  rw [← e1] at e4
  have h5 := upN_ge' (endAt l s (fieldsAt l s).length) (whole l s).2 h2.1
  exact ⟨by omega, by omega, h2.1, h2.2, by omega, h3⟩
theorem end_fit {l : List St} (h : Fits l) {s i : Nat} (hs : s < l.length) (hi : i < (fieldsAt l s).length) :
    endAt l s (i + 1) = upN (endAt l s i) (ofM (whole l) (fieldsAt l s)[i].t).2 + (ofM (whole l) (fieldsAt l s)[i].t).1 ∧ endAt l s (i + 1) ≤ 8192 ∧ (ofM (whole l) (fieldsAt l s)[i].t).1 ≤ 8192 := by
  have h1 := endAt_succ l s i hi
  have h2 := end_all h (s := s) ((fieldsAt l s).length - (i + 1)) (i + 1) (by omega)
  have h3 := whole_fit h hs
  omega
theorem check_field {l : List St} (h : structsE l = 0) {s i : Nat} (hs : s < l.length) (hi : i < (fieldsAt l s).length) : checkE l (fieldsAt l s)[i].t = 0 :=
  checkE_ok.2 ⟨h, ((fits_of h).field hi).1, (end_fit (fits_of h) hs hi).2.2⟩
theorem check_whole {l : List St} (h : structsE l = 0) {s : Nat} (hs : s < l.length) : checkE l ⟨9, s, []⟩ = 0 :=
  checkE_ok.2 ⟨h, shaped_iff.2 ⟨by simp, by simp, fun _ => ⟨by simp, by simpa using hs⟩, fun e => absurd rfl e, fun e => by simp at e, rfl⟩, by
    have := (fits_of h).fit s hs
    show (modsM (baseM (whole l) ⟨9, s, []⟩) []).1 ≤ 8192
    unfold modsM baseM
    rw [if_pos rfl]
    simpa using this⟩
theorem of_whole (l : List St) (s : Nat) : ofM (whole l) ⟨9, s, []⟩ = whole l s := by
  show modsM (baseM (whole l) ⟨9, s, []⟩) [] = _
  unfold modsM baseM
  rw [if_pos rfl]
  simp
theorem findIdx_first {α : Type} {p : α → Bool} : ∀ {l : List α} {i : Nat} (hi : i < l.length), p l[i] = true → (∀ j (hj : j < i), p (l[j]'(by omega)) = false) → l.findIdx? p = some i := by
  intro l i hi h1 h2
  rw [List.findIdx?_eq_some_iff_getElem]
  exact ⟨hi, h1, fun j hj => by rw [h2 j hj]; decide⟩
theorem off_field {l : List St} (h : structsE l = 0) {s i : Nat} (hs : s < l.length) (hi : i < (fieldsAt l s).length) :
    offS l s (fieldsAt l s)[i].nm = (upN (endAt l s i) (ofM (whole l) (fieldsAt l s)[i].t).2, (fieldsAt l s)[i].t, 0) := by
  have hst : stB l s = true := by
    have := (fits_of h).all
    unfold soundB at this
    rw [Bool.and_eq_true, List.all_eq_true] at this
    exact this.2 s (List.mem_range.2 hs)
  unfold stB at hst
  rw [Bool.and_eq_true] at hst
  have hfd := fdsB_at hst.2 i hi
  unfold fdB at hfd
  rw [Bool.and_eq_true, Bool.and_eq_true] at hfd
  have hnm : memB (ByteArray.empty :: ((fieldsAt l s).take i).map Ty.Fd.nm) (fieldsAt l s)[i].nm = false := by simpa using hfd.1.1
  have hfi : (fieldsAt l s).findIdx? (fun f => decide (f.nm = (fieldsAt l s)[i].nm)) = some i := findIdx_first hi (by simp) (fun j hj => by
    rw [decide_eq_false_iff_not]
    intro e
    have : memB (ByteArray.empty :: ((fieldsAt l s).take i).map Ty.Fd.nm) (fieldsAt l s)[i].nm = true := by
      rw [memB_iff, List.mem_cons]
      refine .inr (List.mem_map.2 ⟨(fieldsAt l s)[j]'(by omega), ?_, e⟩)
      rw [List.mem_take_iff_getElem]
      exact ⟨j, by omega, rfl⟩
    rw [hnm] at this
    cases this)
  unfold offS
  rw [if_pos h, if_neg (by omega), Int.toNat_natCast, hfi]
  dsimp only
  rw [List.getElem?_eq_getElem hi]
  have : (layM (whole l) (fieldsAt l s)).1.getD i 0 = upN (endAt l s i) (ofM (whole l) (fieldsAt l s)[i].t).2 := layS_get (whole l) (fieldsAt l s) 0 i hi
  rw [this]

end Go.Proofs.YtjpkmaacalelcaaDoor
