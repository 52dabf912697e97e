import Derived.Test.YtkgcfllbkjlfcaaO4
import Derived.Test.YtkgcfllbkjlfcaaShelf
import Derived.Lib.OthersKept
namespace Go.Proofs.Ytkgcfllbkjlfcaa
open Go.RowKit

attribute [local go_sem] Program.isFuncB Program.isSliceB

variable {w w' w'' w0 : World}

theorem Try.infoInt : (Try.prog.info? 3).map (fun i => (i.zero, i.size, i.bytes)) = some (some (.int .i64 0), 1, 8) := by kernel_rfl

def ints (l : List Int) : List Value := l.map (.int .i64)

/-- an instruction's registers, and which are read, by its shape's letters -/
def stepF (regs : List Int) (st : List Int × List Int × Int) (c : UInt8) : List Int × List Int × Int :=
  if c = 119 then (st.1 ++ [regs.getD st.1.length 0], st.2.1, regs.getD st.1.length 0)
  else if c = 114 then (st.1 ++ [regs.getD st.1.length 0], st.2.1 ++ [regs.getD st.1.length 0], st.2.2) else st
def fieldsOf (regs : List Int) (s : List UInt8) : List Int × List Int × Int := s.foldl (stepF regs) ([], [], -1)

structure FS (w0 w : World) (lb it : Nat) (A B C : Int) (s : ByteArray) (k : Nat) (x y : Value) (a r : List Int) : Prop where
  all : w.ownsRow w0.heap.size 3 1 x a.length (ints a)
  read : w.ownsRow w0.heap.size 3 1 y r.length (ints r)
  ap : ∀ k, x.ownBlock = some k → y.ownBlock ≠ some k
  l : w.heap[lb]? = some (.cells #[.int .i64 A, .int .i64 B, .int .i64 C] 3 (0, 0))
  iter : w.heap[it]? = some (.stringIter s k)
  fr : Fr (fun k => k = it ∨ w0.heap.size ≤ k) w0 w
  lt : lb < w0.heap.size ∧ it < w0.heap.size ∧ lb ≠ it

section
variable {lb it k : Nat} {A B C : Int} {s : ByteArray} {x y x' y' : Value} {a r : List Int}

theorem fr_iterAt {S : Nat → Prop} {s : ByteArray} {p : Nat} (h : Fr S w0 w) (hS : S it) : Fr S w0 (w.iterAt it s p) :=
  ⟨h.os, h.tape, h.output, by simp [World.iterAt, h.size], fun k hk hs => by
    have : it ≠ k := fun e => hs (e ▸ hS)
    rw [show (w.iterAt it s p).heap[k]? = w.heap[k]? from by simp [World.iterAt, Array.getElem?_setIfInBounds_ne this]]
    exact h.block k hk hs⟩

theorem FS.next (h : FS w0 w lb it A B C s k x y a r) : FS w0 (w.iterAt it s (k + 1)) lb it A B C s (k + 1) x y a r := by
  have hr : Fr (only [it]) w (w.iterAt it s (k + 1)) := fr_iterAt (Fr.refl _ _) (by simp)
  have h1 := h.lt
  exact ⟨owns_fr h.all hr (fun i hi => by have := (h.all.lt i hi).1; simp; omega), owns_fr h.read hr (fun i hi => by have := (h.read.lt i hi).1; simp; omega), h.ap,
    hr.heap h.l (by simp; omega), Lib.iterAt_heap _ _ _ _ _ h.iter, fr_iterAt h.fr (.inl rfl), h.lt⟩

theorem FS.new (h : FS w0 w lb it A B C s k x y a r) (o : Obj) : FS w0 (w.alloc o) lb it A B C s k x y a r := by
  have hr : Fr no w (w.alloc o) := (Fr.refl _ _).alloc o
  exact ⟨owns_fr h.all hr (by simp), owns_fr h.read hr (by simp), h.ap, hr.heap h.l (by simp), hr.heap h.iter (by simp), h.fr.trans hr.to, h.lt⟩

theorem FS.appA {n : Int} (h : FS w0 w lb it A B C s k x y a r) (ho : w'.ownsRow w0.heap.size 3 1 x' (a.length + 1) (ints a ++ [.int .i64 n])) (hg : w.grownBy w' x.ownBlock)
    (hb : ∀ k, x'.ownBlock = some k → x.ownBlock = some k ∨ k = w.heap.size) : FS w0 w' lb it A B C s k x' y (a ++ [n]) r := by
  have hr : Fr (fun k => x.ownBlock = some k) w w' := (Fr.refl _ w).grown hg (fun k hk => .inl hk)
  have h1 := h.lt
  refine ⟨by simpa [ints] using ho, owns_fr h.read hr (fun i hi he => h.ap i he hi), fun i hi he => ?_, hr.heap h.l (fun e => by have := (h.all.lt _ e).1; omega), hr.heap h.iter (fun e => by have := (h.all.lt _ e).1; omega),
    h.fr.trans (hr.mono fun i hi _ => .inr (h.all.lt i hi).1), h.lt⟩
  rcases hb i hi with h2 | rfl
  · exact h.ap i h2 he
  · have := (h.read.lt _ he).2; omega

theorem FS.appR {n : Int} (h : FS w0 w lb it A B C s k x y a r) (ho : w'.ownsRow w0.heap.size 3 1 y' (r.length + 1) (ints r ++ [.int .i64 n])) (hg : w.grownBy w' y.ownBlock)
    (hb : ∀ k, y'.ownBlock = some k → y.ownBlock = some k ∨ k = w.heap.size) : FS w0 w' lb it A B C s k x y' a (r ++ [n]) := by
  have hr : Fr (fun k => y.ownBlock = some k) w w' := (Fr.refl _ w).grown hg (fun k hk => .inl hk)
  have h1 := h.lt
  refine ⟨owns_fr h.all hr (fun i hi he => h.ap i hi he), by simpa [ints] using ho, fun i hi he => ?_, hr.heap h.l (fun e => by have := (h.read.lt _ e).1; omega), hr.heap h.iter (fun e => by have := (h.read.lt _ e).1; omega),
    h.fr.trans (hr.mono fun i hi _ => .inr (h.read.lt i hi).1), h.lt⟩
  rcases hb i he with h2 | rfl
  · exact h.ap i hi h2
  · have := (h.all.lt _ hi).2; omega
end

theorem fieldsOf_snoc (regs : List Int) (s : List UInt8) (c : UInt8) : fieldsOf regs (s ++ [c]) = stepF regs (fieldsOf regs s) c := by simp [fieldsOf]
theorem stepF_len (regs : List Int) (st : List Int × List Int × Int) (c : UInt8) : (stepF regs st c).1.length ≤ st.1.length + 1 ∧ (stepF regs st c).2.1.length ≤ st.2.1.length + 1 := by
  unfold stepF
  split
  · simp
  · split <;> simp
theorem fieldsOf_len (regs : List Int) : ∀ (n : Nat) (s : List UInt8), s.length = n → (fieldsOf regs s).1.length ≤ n ∧ (fieldsOf regs s).2.1.length ≤ n
  | 0, s, h => by rw [List.length_eq_zero_iff.1 h]; simp [fieldsOf]
  | n + 1, s, h => by
    have hne : s ≠ [] := by rintro rfl; simp at h
    rw [← List.dropLast_concat_getLast hne, fieldsOf_snoc]
    have ih := fieldsOf_len regs n s.dropLast (by simp [h])
    have := stepF_len regs (fieldsOf regs s.dropLast) (s.getLast hne)
    omega

theorem blen (s : ByteArray) : s.data.toList.length = s.size := by rw [Array.length_toList]; rfl
theorem blen_take (s : ByteArray) (k : Nat) (h : k ≤ s.size) : (s.data.toList.take k).length = k := by rw [List.length_take, blen]; omega
theorem btake_succ (s : ByteArray) (k : Nat) (h : k < s.size) : s.data.toList.take (k + 1) = s.data.toList.take k ++ [s[k]'h] := by
  rw [List.take_succ_eq_append_getElem (by rw [blen]; exact h)]; rfl

/-- how many bytes a string's iterator has ahead -/
def itLeft (w : World) (b : Nat) : Nat := match w.heap[b]? with | some (.stringIter s k) => s.size - k | _ => 0
theorem itLeft_at {w : World} {b k : Nat} {s : ByteArray} (h : w.heap[b]? = some (.stringIter s k)) : itLeft w b = s.size - k := by unfold itLeft; rw [h]

/-- what holds of every shape -/
structure ShapeOk (s : ByteArray) : Prop where
  ascii : ∀ k (h : k < s.size), (s[k]'h).toNat < 128
  size : s.size ≤ 3

theorem shape_okB : ((List.range 33).all fun n => decide ((shapeOf n).size ≤ 3) && (shapeOf n).data.toList.all fun c => decide (c.toNat < 128)) = true := by decide
theorem shape_ok (n : Int) : ShapeOk (shapeI n) := by
  unfold shapeI
  split
  · rename_i h
    have h1 := List.all_eq_true.1 shape_okB n.toNat (by simp; omega)
    simp only [Bool.and_eq_true, decide_eq_true_eq, List.all_eq_true] at h1
    refine ⟨fun k hk => ?_, h1.1⟩
    refine h1.2 _ ?_
    show (shapeOf n.toNat).data[k] ∈ _
    simp
  · exact ⟨fun k hk => by exact absurd hk (by simp [ByteArray.size]), by simp [ByteArray.size]⟩

end Go.Proofs.Ytkgcfllbkjlfcaa
