import Derived.Test.YtfiabeibiehlaaaW1
namespace Go.Proofs.Ytfiabeibiehlaaa
open Go.RowKit

attribute [local go_sem] Program.isFuncB Program.isSliceB

/-- A slice value that reads as these bools. -/
def BoolsAt (w : World) (v : Value) (xs : List Bool) : Prop :=
  (v = .slice none 0 0 ∧ xs = []) ∨ ∃ b o cap, v = .slice (some ⟨b, o, none⟩) xs.length cap ∧ xs.length ≤ cap ∧ cap ≤ 9223372036854775807 ∧ ∀ i (h : i < xs.length), w.cell? ⟨b, o + i, none⟩ = some (.bool xs[i])

theorem BoolsAt.fr {S : Nat → Prop} {w w' : World} {v : Value} {xs : List Bool} (h : BoolsAt w v xs) (hf : Fr S w w') (hs : ∀ k, v.ownBlock = some k → ¬ S k) : BoolsAt w' v xs := by
  rcases h with h | ⟨b, o, cap, rfl, h1, h2, h3⟩
  · exact .inl h
  · exact .inr ⟨b, o, cap, rfl, h1, h2, fun i hi => hf.cell (h3 i hi) (hs b rfl)⟩

/-- The policy's abstract state. -/
structure PS where
  scr : List Bool
  thr : Nat
  at_ : Nat
  asked : Nat
  cnt : Nat → Nat

def PS.answer (s : PS) (f : Nat) : Bool := if h : s.at_ < s.scr.length then s.scr[s.at_] else decide (s.thr ≠ 0) && decide (s.thr ≤ s.cnt f + 1)
def PS.next (s : PS) (f : Nat) : PS :=
  { s with at_ := if s.at_ < s.scr.length then s.at_ + 1 else s.at_, asked := s.asked + 1, cnt := fun i => if i = f then s.cnt f + 1 else s.cnt i }

def saysOf (ba bp : Nat) : Value := .func (.func 26) #[] #[.pointer (some ⟨ba, 0, none⟩), .pointer (some ⟨bp, 0, none⟩)]

structure PolAt (w : World) (s : PS) (b ba bp : Nat) (sv : Value) : Prop where
  blk : ∃ c, w.heap[b]? = some (.cells c 48 (0, 0))
  scr : w.cell? ⟨b, 0, none⟩ = some sv
  thr : w.cell? ⟨b, 1, none⟩ = some (.int .i64 s.thr)
  cnt : ∀ i, i < 64 → w.cell? ⟨b, 2 + i, none⟩ = some (.int .i64 (s.cnt i))
  asked : w.cell? ⟨b, 66, none⟩ = some (.int .i64 s.asked)
  says : w.cell? ⟨b, 67, none⟩ = some (saysOf ba bp)
  at_ : w.heap[ba]? = some (.cells #[.int .i64 s.at_] 3 (0, 0))
  self : w.heap[bp]? = some (.cells #[.pointer (some ⟨b, 0, none⟩)] 25 (0, 0))
  list : BoolsAt w sv s.scr
  apart : ∀ k, sv.ownBlock = some k → k ≠ b ∧ k ≠ ba

theorem PolAt.ne {w : World} {s : PS} {b ba bp : Nat} {sv : Value} (h : PolAt w s b ba bp sv) : b ≠ ba ∧ b ≠ bp ∧ ba ≠ bp := by
  obtain ⟨c, hc⟩ := h.blk
  refine ⟨?_, ?_, ?_⟩ <;> rintro rfl
  · have := hc.symm.trans h.at_; simp at this
  · have := hc.symm.trans h.self; simp at this
  · have := h.at_.symm.trans h.self; simp at this

theorem PolAt.fr {S : Nat → Prop} {w w' : World} {s : PS} {b ba bp : Nat} {sv : Value} (h : PolAt w s b ba bp sv) (hf : Fr S w w')
    (h1 : ¬ S b) (h2 : ¬ S ba) (h3 : ¬ S bp) (h4 : ∀ k, sv.ownBlock = some k → ¬ S k) : PolAt w' s b ba bp sv := by
  obtain ⟨c, hc⟩ := h.blk
  exact ⟨⟨c, hf.heap hc h1⟩, hf.cell h.scr h1, hf.cell h.thr h1, fun i hi => hf.cell (h.cnt i hi) h1, hf.cell h.asked h1, hf.cell h.says h1,
    hf.heap h.at_ h2, hf.heap h.self h3, h.list.fr hf h4, h.apart⟩

theorem frozen_of {w : World} {b o : Nat} {c : Array Value} {t : TypeId} (h : w.heap[b]? = some (.cells c t (0, 0))) : w.frozen? ⟨b, o, none⟩ = false := by
  simp [World.frozen?, h]

/-- a store into the object: the cells but one are as they were. -/
theorem heap_setCell {w : World} {b o : Nat} {c : Array Value} {t : TypeId} {v : Value} (h : w.heap[b]? = some (.cells c t (0, 0))) :
    (w.setCell ⟨b, o, none⟩ v).heap[b]? = some (.cells (c.setIfInBounds o v) t (0, 0)) := by
  simp [World.setCell, Array.getElem?_modify, h]

theorem PolAt.drewN {w : World} {s : PS} {b ba bp : Nat} {sv : Value} (h : PolAt w s b ba bp sv) (n : Nat) : PolAt (w.drewN n) s b ba bp sv :=
  ⟨h.blk, h.scr, h.thr, h.cnt, h.asked, h.says, h.at_, h.self, h.list, h.apart⟩

theorem PolAt.store_asked {w : World} {s : PS} {b ba bp : Nat} {sv : Value} (h : PolAt w s b ba bp sv) (n : Nat) (x : Int) (hx : (n : Int) = x) :
    PolAt (w.setCell ⟨b, 66, none⟩ (.int .i64 x)) { s with asked := n } b ba bp sv := by
  subst hx
  have hf : Fr (only [b]) w (w.setCell ⟨b, 66, none⟩ (.int .i64 n)) := (Fr.refl _ _).setCell _ _ (.inl (by simp))
  obtain ⟨c, hc⟩ := h.blk
  obtain ⟨n1, n2, n3⟩ := h.ne
  exact ⟨⟨_, heap_setCell hc⟩, (World.cell?_setCell_other _ _ _ _ (by simp)).trans h.scr, (World.cell?_setCell_other _ _ _ _ (by simp)).trans h.thr,
    fun i hi => (World.cell?_setCell_other _ _ _ _ (by simp <;> omega)).trans (h.cnt i hi), World.cell?_setCell_same _ _ _ h.asked,
    (World.cell?_setCell_other _ _ _ _ (by simp)).trans h.says, hf.heap h.at_ (by simp <;> omega), hf.heap h.self (by simp <;> omega),
    h.list.fr hf (fun k hk => by have := h.apart k hk; simp <;> omega), h.apart⟩

theorem PolAt.store_cnt {w : World} {s : PS} {b ba bp : Nat} {sv : Value} (h : PolAt w s b ba bp sv) (f n : Nat) (x : Int) (hx : (n : Int) = x) (hf64 : f < 64) :
    PolAt (w.setCell ⟨b, 2 + f, none⟩ (.int .i64 x)) { s with cnt := fun i => if i = f then n else s.cnt i } b ba bp sv := by
  subst hx
  have hf : Fr (only [b]) w (w.setCell ⟨b, 2 + f, none⟩ (.int .i64 n)) := (Fr.refl _ _).setCell _ _ (.inl (by simp))
  obtain ⟨c, hc⟩ := h.blk
  obtain ⟨n1, n2, n3⟩ := h.ne
  refine ⟨⟨_, heap_setCell hc⟩, (World.cell?_setCell_other _ _ _ _ (by simp)).trans h.scr, (World.cell?_setCell_other _ _ _ _ (by simp <;> omega)).trans h.thr,
    fun i hi => ?_, (World.cell?_setCell_other _ _ _ _ (by simp <;> omega)).trans h.asked,
    (World.cell?_setCell_other _ _ _ _ (by simp <;> omega)).trans h.says, hf.heap h.at_ (by simp <;> omega), hf.heap h.self (by simp <;> omega),
    h.list.fr hf (fun k hk => by have := h.apart k hk; simp <;> omega), h.apart⟩
  by_cases e : i = f
  · subst e; simp only [if_true]; exact World.cell?_setCell_same _ _ _ (h.cnt i hi)
  · simp only [e, if_false]; exact (World.cell?_setCell_other _ _ _ _ (by simp <;> omega)).trans (h.cnt i hi)

theorem PolAt.store_at {w : World} {s : PS} {b ba bp : Nat} {sv : Value} (h : PolAt w s b ba bp sv) (n : Nat) (x : Int) (hx : (n : Int) = x) :
    PolAt (w.setCell ⟨ba, 0, none⟩ (.int .i64 x)) { s with at_ := n } b ba bp sv := by
  subst hx
  have hf : Fr (only [ba]) w (w.setCell ⟨ba, 0, none⟩ (.int .i64 n)) := (Fr.refl _ _).setCell _ _ (.inl (by simp))
  obtain ⟨c, hc⟩ := h.blk
  obtain ⟨n1, n2, n3⟩ := h.ne
  have hb : ¬ only [ba] b := by simp; omega
  exact ⟨⟨c, hf.heap hc hb⟩, hf.cell h.scr hb, hf.cell h.thr hb, fun i hi => hf.cell (h.cnt i hi) hb, hf.cell h.asked hb, hf.cell h.says hb,
    one_setCell h.at_, hf.heap h.self (by simp <;> omega), h.list.fr hf (fun k hk => by have := h.apart k hk; simp <;> omega), h.apart⟩

end Go.Proofs.Ytfiabeibiehlaaa
