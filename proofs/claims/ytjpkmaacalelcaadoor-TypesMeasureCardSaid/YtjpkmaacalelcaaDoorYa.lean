/- Types, plainly: shapes, sizes, where fields lie. Of no program. -/
import Derived.Lib.SlicesCompact
set_option linter.unusedSimpArgs false
set_option linter.unusedVariables false
set_option linter.unusedSectionVars false
set_option linter.unnecessarySimpa false
namespace Go.Ty

structure Ty where
  b : Int
  s : Int
  ms : List Int
  deriving DecidableEq
structure Fd where
  nm : ByteArray
  t : Ty
  deriving DecidableEq
structure St where
  nm : ByteArray
  fs : List Fd
  deriving DecidableEq

def sizeB (b : Int) : Nat := [0, 1, 1, 2, 2, 4, 4, 8, 8].getD b.toNat 0
def intB (b : Int) : Bool := decide (1 ≤ b ∧ b ≤ 8)
def modB (m : Int) : Bool := m == -1 || (decide (1 ≤ m) && decide (m ≤ 8192))
/-- may a type be, over so many structs? -/
def shapedB (many : Nat) (t : Ty) : Bool :=
  decide (0 ≤ t.b) && decide (t.b ≤ 9) && decide (t.ms.length ≤ 8) && (if t.b = 9 then decide (0 ≤ t.s) && decide (t.s < many) else t.s == 0) &&
    (if t.b = 0 then t.ms.getLast? == some (-1) else true) && t.ms.all modB
def insideB (t : Ty) : Bool := t.b == 9 && !t.ms.contains (-1)
def upN (n by_ : Nat) : Nat := (n + by_ - 1) / by_ * by_
def modsM (base : Nat × Nat) : List Int → Nat × Nat
  | [] => base
  | m :: r => if m = -1 then (8, 8) else (min ((modsM base r).1 * m.toNat) 8193, (modsM base r).2)
def baseM (W : Nat → Nat × Nat) (t : Ty) : Nat × Nat := if t.b = 9 then W t.s.toNat else (sizeB t.b, sizeB t.b)
def ofM (W : Nat → Nat × Nat) (t : Ty) : Nat × Nat := modsM (baseM W t) t.ms
/-- where fields lie from a place on, their measures, the end -/
def layS (W : Nat → Nat × Nat) : List Fd → Nat → List Nat × List (Nat × Nat) × Nat
  | [], at_ => ([], [], at_)
  | f :: fs, at_ => (upN at_ (ofM W f.t).2 :: (layS W fs (min (upN at_ (ofM W f.t).2 + (ofM W f.t).1) 8193)).1, ofM W f.t :: (layS W fs (min (upN at_ (ofM W f.t).2 + (ofM W f.t).1) 8193)).2.1, (layS W fs (min (upN at_ (ofM W f.t).2 + (ofM W f.t).1) 8193)).2.2)
def maxA (l : List (Nat × Nat)) : Nat := l.foldl (fun a m => max a m.2) 0
def layM (W : Nat → Nat × Nat) (fs : List Fd) : List Nat × (Nat × Nat) :=
  ((layS W fs 0).1, (min (upN (layS W fs 0).2.2 (maxA (layS W fs 0).2.1)) 8193, maxA (layS W fs 0).2.1))
def fieldsAt (l : List St) (i : Nat) : List Fd := match l[i]? with | some s => s.fs | none => []
def wholeN (l : List St) : Nat → Nat → Nat × Nat
  | 0, _ => (0, 1)
  | n + 1, i => (layM (wholeN l n) (fieldsAt l i)).2
def whole (l : List St) (i : Nat) : Nat × Nat := wholeN l (i + 1) i
/-- each struct holds earlier ones only -/
def Down (l : List St) : Prop := ∀ i, ∀ f ∈ fieldsAt l i, insideB f.t = true → 0 ≤ f.t.s ∧ f.t.s < i

theorem modsM_ptr {b b' : Nat × Nat} : ∀ {ms : List Int}, ms.contains (-1) = true → modsM b ms = modsM b' ms
  | [], h => by simp at h
  | m :: r, h => by
    unfold modsM
    by_cases hm : m = -1
    · rw [if_pos hm, if_pos hm]
    · have hr : r.contains (-1) = true := by
        rw [List.contains_cons, Bool.or_eq_true] at h
        rcases h with h | h
        · exact absurd (beq_iff_eq.1 h).symm hm
        · exact h
      rw [if_neg hm, if_neg hm, modsM_ptr (b := b) (b' := b') hr]
theorem ofM_same {W V : Nat → Nat × Nat} {t : Ty} (h : insideB t = true → W t.s.toNat = V t.s.toNat) : ofM W t = ofM V t := by
  unfold ofM baseM
  by_cases hb : t.b = 9
  · rw [if_pos hb, if_pos hb]
    cases hc : t.ms.contains (-1)
    · rw [h (by unfold insideB; rw [hc, hb]; rfl)]
    · exact modsM_ptr hc
  · rw [if_neg hb, if_neg hb]
theorem layS_same {W V : Nat → Nat × Nat} : ∀ (fs : List Fd) (a : Nat), (∀ f ∈ fs, ofM W f.t = ofM V f.t) → layS W fs a = layS V fs a
  | [], _, _ => rfl
  | f :: fs, a, h => by
    unfold layS
    rw [h f (by simp), layS_same fs _ (fun g hg => h g (by simp [hg]))]
theorem layM_same {W V : Nat → Nat × Nat} {fs : List Fd} (h : ∀ f ∈ fs, ofM W f.t = ofM V f.t) : layM W fs = layM V fs := by
  unfold layM
  rw [layS_same fs 0 h]
theorem wholeN_same {l : List St} (hd : Down l) : ∀ (n m i : Nat), i < n → i < m → wholeN l n i = wholeN l m i
  | 0, _, _, h, _ => by omega
  | _ + 1, 0, _, _, h => by omega
  | n + 1, m + 1, i, h1, h2 => by
    unfold wholeN
    rw [layM_same (W := wholeN l n) (V := wholeN l m) (fun f hf => ofM_same fun hi => by
      obtain ⟨a, b⟩ := hd i f hf hi
      exact wholeN_same hd n m _ (by omega) (by omega))]
theorem whole_eq {l : List St} (hd : Down l) (i : Nat) : whole l i = (layM (whole l) (fieldsAt l i)).2 := by
  unfold whole
  rw [show wholeN l (i + 1) i = (layM (wholeN l i) (fieldsAt l i)).2 from rfl]
  rw [layM_same (W := wholeN l i) (V := fun j => wholeN l (j + 1) j) (fun f hf => ofM_same fun hi => by
    obtain ⟨a, b⟩ := hd i f hf hi
    exact wholeN_same hd _ _ _ (by omega) (by omega))]

end Go.Ty
