import Derived.Test.YtdklbmggljakkaaD10
set_option linter.unusedSimpArgs false
set_option linter.unusedVariables false
set_option linter.unusedSectionVars false
set_option linter.unnecessarySimpa false
namespace Go.Proofs.Ytdklbmggljakkaa
open Go.RowKit Go.Shelf

attribute [local go_sem] Program.isFuncB Program.isSliceB

variable {w w' w'' w0 : World}

theorem heap_own {β : Type} (b : Nat) (cs : Array Value) (t : TypeId) (z : Nat × Nat) : Own (fun (_ : β) W => W.heap[b]? = some (.cells cs t z)) := fun s X Y row hs hg hrow =>
  (hg.block b (Array.getElem?_eq_some_iff.1 hs).1 (fun e' => by obtain ⟨o, ho, hc⟩ := hrow b e'.symm; rw [show X.heap[b]? = _ from hs] at ho; cases ho; cases hc)).trans hs

set_option maxHeartbeats 2000000 in
set_option maxRecDepth 100000 in
/-- a text into a fresh builder -/
theorem write_new (w : World) (b : Nat) (s : ByteArray) (h : w.heap[b]? = some (.cells #[.pointer none, .slice none 0 0] 68 (0, 0))) (hs : s.size ≤ 1000) :
    Calls Try.prog 44 #[.pointer (some ⟨b, 0, none⟩), .string s] w fun e w' => e = .returned (.tuple #[.int .i64 s.size, .nilIface]) ∧ (∃ v, w'.heap[b]? = some (.cells #[.pointer (some ⟨b, 0, none⟩), v] 68 (0, 0)) ∧ w'.ownsRow w.heap.size 5 1 v s.size (Lib.strCells s)) ∧ Fr (only [b]) w w' := by
  obtain ⟨i0, hi, hz0, hz1, hz2⟩ := info_parts Try.infoU8
  have hlt : b < w.heap.size := (Array.getElem?_eq_some_iff.1 h).1
  have CC := Lib.hid (copycheck_new w b _ h)
  have HB1 := Lib.hid (heap_setCell (o := 0) (v := .pointer (some ⟨b, 0, none⟩)) h)
  have R1 := Lib.hid ((Fr.refl (only [b]) w).setCell ⟨b, 0, none⟩ (.pointer (some ⟨b, 0, none⟩)) (.inl (by simp)))
  have hsz : (w.setCell ⟨b, 0, none⟩ (.pointer (some ⟨b, 0, none⟩))).heap.size = w.heap.size := by simp
  have HSZ := Lib.hid hsz
  clear h hsz
  go_enter Try.func44, Try.ntmps44
  go_wp2_with fail
  refine CC.out.mono ?_
  rintro e w1 ⟨rfl, rfl⟩
  generalize w.setCell ⟨b, 0, none⟩ (.pointer (some ⟨b, 0, none⟩)) = w1 at *
  have c0 : w1.cell? ⟨b, 0, none⟩ = some (.pointer (some ⟨b, 0, none⟩)) := cell_of_heap HB1.out rfl
  have c1 : w1.cell? ⟨b, 1, none⟩ = some (.slice none 0 0) := cell_of_heap HB1.out rfl
  go_wp2_with (at_builtin; refine Lib.wpList_append_own_string _ rfl _ _ 22 9 rfl w.heap.size 5 i0 Try.underlying22 Try.underlying9 hi hz0 hz1 hz2 _ 0 [] rfl (World.ownsRow_nil _ _ _ _) s rfl ?c3 ?c4 ?c5 ?_)
  case c3 => unfold maxLen; omega
  case c4 => omega
  case c5 => have := HSZ.out; omega
  intro v' w2 hown' hgrow _
  have r2 : Fr no w1 w2 := ((Fr.refl no w1).grown hgrow (fun k hk => by cases hk))
  have HB2 := Lib.hid (r2.heap HB1.out (by simp))
  have R2 := Lib.hid (R1.out.trans (r2.to (T := only [b])))
  obtain ⟨ao, cap, rfl⟩ := owns_shape hown'
  have HO2 := Lib.hid hown'
  clear hown' hgrow c0 c1 r2
  have d0 : w2.cell? ⟨b, 0, none⟩ = some (.pointer (some ⟨b, 0, none⟩)) := cell_of_heap HB2.out rfl
  have d1 : w2.cell? ⟨b, 1, none⟩ = some (.slice none 0 0) := cell_of_heap HB2.out rfl
  have f1 : w2.frozen? ⟨b, 1, none⟩ = false := frozen_of_heap HB2.out
  go_wp2_with fail
  go_ret2
  refine ⟨rfl, ?_, R2.out.setCell _ _ (.inl (by simp))⟩
  refine ⟨_, heap_setCell (o := 1) HB2.out, ?_⟩
  refine owns_fr (owns_base HO2.out (fun k hk => by have := (HO2.out.lt k hk).1; omega)) ((Fr.refl (only [b]) w2).setCell ⟨b, 1, none⟩ _ (.inl (by simp))) ?_
  exact fun k hk => by have := (HO2.out.lt k hk).1; simp; omega

theorem Fr.freeze {S : Nat → Prop} {w w' : World} (h : Fr S w w') (p : Addr) (n : Nat) (hp : S p.block ∨ w.heap.size ≤ p.block) : Fr S w (w'.freeze p n) := by
  refine h.trans' (T := fun k => k = p.block) ?_ (fun i hi hs => by rcases hp with m | m; exact absurd (hi ▸ m) hs; omega)
  unfold World.freeze
  split
  · exact Fr.refl _ _
  · exact ⟨rfl, rfl, rfl, by simp, fun k _ hk => by simp only [Array.getElem?_modify]; rw [if_neg (fun e => hk e.symm)]⟩

set_option maxHeartbeats 2000000 in
set_option maxRecDepth 100000 in
/-- the text that a builder holds -/
theorem string_new (w : World) (B b : Nat) (p v : Value) (l : List UInt8) (h : w.heap[b]? = some (.cells #[p, v] 68 (0, 0))) (hown : w.ownsRow B 5 1 v l.length (Lib.byteCells l)) (h0 : l ≠ []) (hB : B ≤ w.heap.size) :
    Calls Try.prog 45 #[.pointer (some ⟨b, 0, none⟩)] w fun e w' => e = .returned (.string ⟨l.toArray⟩) ∧ Fr (fun k => B ≤ k) w w' := by
  have hl0 : l.length ≠ 0 := by simpa using h0
  obtain ⟨g, cap, cur, rfl, hbg, hg, hnc, hcm, hcs, htake⟩ : ∃ g cap cur, v = .slice (some ⟨g, 0, none⟩) l.length cap ∧ B ≤ g ∧ w.heap[g]? = some (.cells cur 5 (0, 0)) ∧ l.length ≤ cap ∧ cap ≤ maxLen ∧ cur.size = cap * 1 ∧ cur.toList.take (l.length * 1) = Lib.byteCells l := by
    rcases hown.2 with ⟨_, hz⟩ | ⟨g, cap, cur, hv, r⟩
    · exact absurd hz hl0
    · exact ⟨g, cap, cur, hv, r⟩
  have c1 : w.drew.cell? ⟨b, 1, none⟩ = some (.slice (some ⟨g, 0, none⟩) l.length cap) := cell_of_heap (show w.drew.heap[b]? = _ from h) rfl
  have hSD : (Builtin.unsafeSliceData_ #[22] 87 #[.slice (some ⟨g, 0, none⟩) l.length cap]).run Try.prog w.drew = .ok (.pointer (some ⟨g, 0, none⟩)) w.drew :=
    Lib.run_unsafeSliceData_row _ _ _ _ _ _ (by omega)
  have hUS : (Builtin.unsafeString_ #[87, 3] 9 #[.pointer (some ⟨g, 0, none⟩), .int .i64 l.length]).run Try.prog w.drew = .ok (.string ⟨l.toArray⟩) (w.drew.freeze ⟨g, 0, none⟩ l.length) := by
    refine Lib.run_unsafeString_row w.drew 87 3 9 5 Try.underlying87 (by kernel_rfl) g cur.size (by have hg' : w.drew.heap[g]? = some (.cells cur 5 (0, 0)) := hg; simp [World.shape?, hg']) l h0 (by omega) (by unfold maxLen at hcm; omega) ?_
    intro j x hx
    have := hown.cells (g := g) rfl j (.int .u8 x.toNat) (by simp [Lib.byteCells, hx])
    exact this
  clear hown htake hg h
  have mixed : Try.prog.follows Departure.mixedOrders = true := by kernel_rfl
  go_enter Try.func45, Try.ntmps45
  go_wp2
  go_region_o
  all_goals (go_wp2; go_ret; exact ⟨rfl, Fr.freeze (show Fr (fun k => B ≤ k) w w.drew from ⟨rfl, rfl, rfl, Nat.le_refl _, fun _ _ _ => rfl⟩) ⟨g, 0, none⟩ _ (.inl hbg)⟩)

def trap1 : ByteArray := ⟨#[116, 114, 97, 112, 32, 49]⟩
theorem digit1 : Lib.decDigits 1 = [49] := by rw [Lib.decDigits_one (by decide)]; rfl
set_option maxHeartbeats 2000000 in
theorem endtext_trap (w : World) : Calls Try.prog 87 #[.agg #[.int .i64 2, .int .i64 1]] w fun e w' => e = .returned (.string trap1) ∧ Fr no w w' := by
  have R0 := Lib.hid ((Fr.refl no w).alloc (.cells #[.int .i64 2, .int .i64 1] 81))
  have IT := Try.strconv_Itoa_small 1 (by decide) (w.alloc (.cells #[.int .i64 2, .int .i64 1] 81))
  rw [digit1] at IT
  have IT2 : Hid (Calls Try.prog 73 #[.int .i64 1] (w.alloc (.cells #[.int .i64 2, .int .i64 1] 81)) fun e w' => e = .returned (.string ⟨#[49]⟩) ∧ w' = w.alloc (.cells #[.int .i64 2, .int .i64 1] 81)) := Lib.hid IT
  clear IT
  go_enter Try.func87, Try.ntmps87
  go_wp2_with fail
  refine IT2.out.mono ?_
  rintro e w1 ⟨rfl, rfl⟩
  go_wp2_with fail
  go_ret
  exact ⟨rfl, R0.out⟩

end Go.Proofs.Ytdklbmggljakkaa
