/- law12's small modules. -/
import Derived.Test.YtofahdjnejodjaaGreatV3
import Derived.Test.YtofahdjnejodjaaGreatS11
set_option linter.unusedSimpArgs false
set_option linter.unusedVariables false
set_option linter.unusedSectionVars false
set_option linter.unnecessarySimpa false
namespace Go.Proofs.YtofahdjnejodjaaGreat
open Go.RowKit Go.Flow Go.Sure

attribute [local go_sem] Program.isFuncB Program.isSliceB

variable {w w' w'' w0 : World}

theorem load_insV (w : World) (b : Nat) (a0 a1 a2 a3 a4 a5 : Value) (h : w.heap[b]? = some (.cells #[a0, a1, a2, a3, a4, a5] 47 (0, 0))) : (loadVar 47 ⟨b, 0, none⟩).run Tryz.prog w = .ok (.agg #[a0, a1, a2, a3, a4, a5]) w :=
  run_loadVar_row w b _ _ #[a0, a1, a2, a3, a4, a5] _ _ h Tryz.underlying47 rfl (by rw [Tryz.infoIns]; rfl)

theorem exit_ok (w : World) : Calls Tryz.prog 25 #[] w fun e w' => e = .returned (.agg #[.int .i64 32, .int .i64 0, .int .i64 0, .int .i64 0, .int .i64 0, .slice none 0 0]) ∧ Fr no w w' := by
  go_enter Tryz.func25, Tryz.ntmps25
  go_wp2_with fail
  refine bodyPost_ret (results_cell rfl rfl (load_insV _ _ _ _ _ _ _ _ (heap_new w _))) rfl ?_
  exact ⟨rfl, (Fr.refl no w).alloc _⟩

theorem of_ok (w : World) (ca : Option Addr) (n cc : Nat) : Calls Tryz.prog 24 #[.slice ca n cc] w fun e w' => ∃ b, e = .returned (.agg #[.slice none 0 0, .slice (some ⟨b, 0, none⟩) 1 1]) ∧ w.heap.size ≤ b ∧
    w'.heap[b]? = some (.cells #[.int .i64 0, .int .i64 1, .int .i64 0, .slice ca n cc] 50 (0, 0)) ∧ Fr no w w' := by
  go_enter Tryz.func24, Tryz.ntmps24
  go_wp2_with fail
  refine bodyPost_ret (results_cell rfl rfl (load_mod _ _ _ _ (heap_keep (heap_new w _) _))) rfl ?_
  have h1 := heap_new (w.alloc (.cells #[.slice none 0 0, .slice (some ⟨w.heap.size + 1, 0, none⟩) 1 1] 38)) (.cells #[.int .i64 0, .int .i64 1, .int .i64 0, .slice ca n cc] 50)
  rw [World.size_alloc] at h1
  exact ⟨w.heap.size + 1, rfl, by omega, h1, ((Fr.refl no w).alloc _).alloc _⟩

/-- a module of one function of one register -/
def oneM (p : Int) (is : List Ix) : Mx := ⟨[], [⟨p, 1, 0, is⟩]⟩
structure Lit1 (is : List Ix) : Prop where
  len : is.length ≤ 70
  lit : ∀ i ∈ is, i.l = []
  rng : ∀ i ∈ is, rng i.N
structure OneAt (w : World) (b c : Nat) (p : Int) (is : List Ix) : Prop where
  fn : w.heap[b]? = some (.cells #[.int .i64 p, .int .i64 1, .int .i64 0, .slice (some ⟨c, 0, none⟩) is.length is.length] 50 (0, 0))
  code : w.heap[c]? = some (.cells (litCells is).toArray 47 (0, 0))
theorem OneAt.fr' {S : Nat → Prop} {b c : Nat} {p : Int} {is : List Ix} (h : OneAt w b c p is) (r : Fr S w w') (hb : ¬ S b) (hc : ¬ S c) : OneAt w' b c p is := ⟨r.heap h.fn hb, r.heap h.code hc⟩
theorem OneAt.fr {b c : Nat} {p : Int} {is : List Ix} (h : OneAt w b c p is) (r : Fr no w w') : OneAt w' b c p is := h.fr' r (by simp) (by simp)
theorem OneAt.mod {b c : Nat} {p : Int} {is : List Ix} (h : OneAt w b c p is) (hl : Lit1 is) : ModIn w (oneM p is) none 0 (some ⟨b, 0, none⟩) := by
  refine ⟨.inl ⟨rfl, rfl, rfl⟩, fun k hk => ?_⟩
  obtain rfl : k = 0 := by simp [oneM] at hk; exact hk
  refine ⟨b, 0, some ⟨c, 0, none⟩, is.length, rfl, ⟨fun j v hj => cell_of_heap h.fn ?_, codeIn_lit h.code hl.lit⟩⟩
  rw [show 0 + 0 * 4 + j = j from by omega, ← hj]
  simp [oneM, Fx.cells]
theorem Lit1.fn {is : List Ix} (h : Lit1 is) (p r a : Int) : FnSmall ⟨p, r, a, is⟩ := ⟨h.len, fun i hi => by rw [h.lit i hi]; simp, h.rng⟩
theorem Lit1.small {is : List Ix} (h : Lit1 is) (p : Int) : (oneM p is).Small := ⟨by simp [oneM], by simp [oneM], fun f hf => by
  simp [oneM] at hf
  subst hf
  exact ⟨by have := h.len; simp only; omega, fun i hi => by rw [h.lit i hi]; simp⟩, by simp [oneM]⟩

theorem found_yes (w : World) (m : Mx) (da fa : Option Addr) (dc fc : Nat) (x y z : Int) (hm : ModIn w m da dc fa) (hs : m.Small) (hf : ∀ f ∈ m.f, FnSmall f) (h : modFind m = (x, y, z)) :
    Calls Tryz.prog 26 #[.agg #[.slice da m.d.length dc, .slice fa m.f.length fc], .int .i64 x, .int .i64 y, .int .i64 z] w fun e w' => e = .returned (.bool true) ∧ Fr no w w' := by
  have HM := Lib.hid (heap_new w (.cells #[.slice da m.d.length dc, .slice fa m.f.length fc] 38))
  have r1 := (Fr.refl no w).alloc (.cells #[.slice da m.d.length dc, .slice fa m.f.length fc] 38)
  have R1 := Lib.hid r1
  have HFD := Lib.hid (find_ok _ m da fa dc fc (hm.fr r1) hs hf)
  have HCK := Lib.hid (fun w2 (r : Fr no w w2) => vcheck_ok w2 m da fa dc fc (hm.fr r) hs hf)
  rw [h] at HFD HCK
  clear hm hs hf r1 h
  go_enter Tryz.func26, Tryz.ntmps26
  obtain ⟨m0, m1⟩ := cells2 HM.out
  go_wp2_with fail
  refine HFD.out.mono ?_
  rintro e w2 ⟨rfl, r2⟩
  have HM2 := Lib.hid (r2.heap HM.out (by simp))
  have R2 := Lib.hid (R1.out.trans r2)
  clear r2 m0 m1 HM HFD R1
  obtain ⟨m0, m1⟩ := cells2 HM2.out
  have x1 : (x == x) = true := beq_self_eq_true _
  have x2 : (y == y) = true := beq_self_eq_true _
  have x3 : (z == z) = true := beq_self_eq_true _
  have HCK2 := Lib.hid (HCK.out _ R2.out)
  go_wp2_with fail
  refine HCK2.out.mono ?_
  rintro e w3 ⟨rfl, r3⟩
  have R3 := Lib.hid (R2.out.trans r3)
  clear r3 m0 m1
  go_wp2_with fail
  go_ret
  exact ⟨rfl, R3.out⟩

theorem one_found (w : World) (b c : Nat) (p : Int) (is : List Ix) (x y z : Int) (h : OneAt w b c p is) (hs : Lit1 is) (hf : modFind (oneM p is) = (x, y, z)) :
    Calls Tryz.prog 26 #[.agg #[.slice none 0 0, .slice (some ⟨b, 0, none⟩) 1 1], .int .i64 x, .int .i64 y, .int .i64 z] w fun e w' => e = .returned (.bool true) ∧ Fr no w w' :=
  found_yes w (oneM p is) none (some ⟨b, 0, none⟩) 0 1 x y z (h.mod hs) (hs.small p) (fun f hf => by
    simp [oneM] at hf
    subst hf
    exact hs.fn _ _ _) hf

def echoL : List Ix := [⟨30, 0, 0, 0, 0, []⟩, ⟨32, 0, 0, 0, 0, []⟩]
def exitL : List Ix := [⟨32, 0, 0, 0, 0, []⟩]
def noneL : List Ix := [⟨0, 0, 0, 0, 0, []⟩]
def callL : List Ix := [⟨28, 0, 0, 0, 1, []⟩, ⟨32, 0, 0, 0, 0, []⟩]
def dataL : List Ix := [⟨24, 0, 0, 0, 1, []⟩, ⟨32, 0, 0, 0, 0, []⟩]
theorem echoL_lit : Lit1 echoL := ⟨by decide, by intro i hi; simp [echoL] at hi; rcases hi with rfl | rfl <;> rfl, by intro i hi; simp [echoL] at hi; rcases hi with rfl | rfl <;> (simp [rng])⟩
theorem exitL_lit : Lit1 exitL := ⟨by decide, by intro i hi; simp [exitL] at hi; subst hi; rfl, by intro i hi; simp [exitL] at hi; subst hi; simp [rng]⟩
theorem noneL_lit : Lit1 noneL := ⟨by decide, by intro i hi; simp [noneL] at hi; subst hi; rfl, by intro i hi; simp [noneL] at hi; subst hi; simp [rng]⟩
theorem callL_lit : Lit1 callL := ⟨by decide, by intro i hi; simp [callL] at hi; rcases hi with rfl | rfl <;> rfl, by intro i hi; simp [callL] at hi; rcases hi with rfl | rfl <;> (simp [rng])⟩
theorem dataL_lit : Lit1 dataL := ⟨by decide, by intro i hi; simp [dataL] at hi; rcases hi with rfl | rfl <;> rfl, by intro i hi; simp [dataL] at hi; rcases hi with rfl | rfl <;> (simp [rng])⟩

/-- of, of a literal code -/
theorem of_lit (w : World) (c : Nat) (is : List Ix) (n : Nat) (hn : is.length = n) (h : w.heap[c]? = some (.cells (litCells is).toArray 47 (0, 0))) :
    Calls Tryz.prog 24 #[.slice (some ⟨c, 0, none⟩) n n] w fun e w' => ∃ b, e = .returned (.agg #[.slice none 0 0, .slice (some ⟨b, 0, none⟩) 1 1]) ∧ w.heap.size ≤ b ∧ OneAt w' b c 0 is ∧ Fr no w w' := by
  refine (of_ok w _ n n).mono ?_
  rintro e w' ⟨b, rfl, hb, h1, r⟩
  exact ⟨b, rfl, hb, ⟨by rw [hn]; exact h1, r.heap h (by simp)⟩, r⟩

theorem echo12_ok (w : World) : Calls Tryz.prog 47 #[] w fun e w' => ∃ b c, e = .returned (.agg #[.slice none 0 0, .slice (some ⟨b, 0, none⟩) 1 1]) ∧ w.heap.size ≤ b ∧ w.heap.size ≤ c ∧ OneAt w' b c 0 echoL ∧ Fr no w w' := by
  have HB := Lib.hid (heap_new w (.cells #[.slice none 0 0, .slice none 0 0] 38))
  have R1 := Lib.hid ((Fr.refl no w).alloc (.cells #[.slice none 0 0, .slice none 0 0] 38))
  have HZ : Hid ((w.alloc (.cells #[.slice none 0 0, .slice none 0 0] 38)).heap.size = w.heap.size + 1) := Lib.hid (World.size_alloc _ _)
  go_enter Tryz.func47, Tryz.ntmps47
  go_wp2_with fail
  refine (exit_ok _).mono ?_
  rintro e w2 ⟨rfl, r2⟩
  have HB2 := Lib.hid (r2.heap HB.out (by simp))
  have R2 := Lib.hid (R1.out.trans r2)
  have HZ2 : Hid (w.heap.size < w2.heap.size) := Lib.hid (by have := HZ.out; have := r2.size; omega)
  clear r2 HB R1 HZ
  go_wp2_with fail
  have r3 := (Fr.refl no w2).alloc (.cells (litCells echoL).toArray 47)
  have HB3 := Lib.hid (r3.heap HB2.out (by simp))
  have R3 := Lib.hid (R2.out.trans r3)
  refine (of_lit _ w2.heap.size echoL 2 rfl (heap_new w2 _)).mono ?_
  rintro e w4 ⟨b, rfl, hb, h1, r4⟩
  have HB4 := Lib.hid (r4.heap HB3.out (by simp))
  have R4 := Lib.hid (R3.out.trans r4)
  have HO := Lib.hid h1
  have HBB : Hid (w.heap.size < b) := Lib.hid (by have := HZ2.out; have := r3.size; omega)
  clear r4 r3 h1 hb HB3 R3
  go_wp2_with (refine wpList_store_row rfl 38 (.tmp 0) (.tmp 4) rfl w.heap.size #[.slice none 0 0, .slice (some ⟨b, 0, none⟩) 1 1] rfl rfl _ _ HB4.out (by rw [Tryz.infoMod2]; rfl) rfl (by simp [Value.oneCell']) ?_; rw [act_put_none])
  have r5 := fr_setRow (g := w.heap.size) (cs := #[.slice none 0 0, .slice (some ⟨b, 0, none⟩) 1 1]) (Fr.refl (only [w.heap.size]) w4) (.inl (by simp))
  refine bodyPost_ret (results_cell rfl rfl (load_mod _ _ _ _ (Inv.row_heap _ _ _ _ _ HB4.out))) rfl ?_
  exact ⟨b, w2.heap.size, rfl, by have := HBB.out; omega, by have := HZ2.out; omega, HO.out.fr' r5 (by have := HBB.out; simp; omega) (by have := HZ2.out; simp; omega), R4.out.trans' r5 (fun k hk _ => by simp at hk; omega)⟩

end Go.Proofs.YtofahdjnejodjaaGreat
