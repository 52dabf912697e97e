/- module.Put. -/
import Derived.Test.YtdngflhfhmnipaaGreatM2
import Derived.Test.YtdngflhfhmnipaaGreatM7
import Derived.Test.YtdngflhfhmnipaaGreatFree
set_option linter.unusedSimpArgs false
set_option linter.unusedVariables false
set_option linter.unusedSectionVars false
set_option linter.unnecessarySimpa false
namespace Go.Proofs.YtdngflhfhmnipaaGreat
open Go.RowKit

attribute [local go_sem] Program.isFuncB Program.isSliceB

variable {w w' w'' w0 : World}

/-! ### a module's bytes -/
def fnB (f : Fx) : List Nat := le f.p.toNat 1 ++ (le f.r.toNat 1 ++ (le f.a.toNat 2 ++ (le (joinB f.c).length 2 ++ joinB f.c)))
def fnsB (fs : List Fx) : List Nat := fs.flatMap fnB
def headB (m : Mx) : List Nat := [84, 87, 1] ++ (le m.d.length 2 ++ (m.d ++ le m.f.length 1))
def modB (m : Mx) : List Nat := headB m ++ fnsB m.f
def putM (m : Mx) : List Nat := if modCk m = 0 then modB m else []
theorem fnsB_take (fs : List Fx) (k : Nat) (hk : k < fs.length) : fnsB (fs.take (k + 1)) = fnsB (fs.take k) ++ fnB fs[k] := by
  rw [List.take_succ_eq_append_getElem hk]
  unfold fnsB
  rw [List.flatMap_append]
  simp only [List.flatMap_cons, List.flatMap_nil, List.append_nil]
theorem joinB_len (is : List Ix) : (joinB is).length ≤ 4096 := by
  unfold joinB
  split
  · rename_i h
    unfold joinCk at h
    split at h
    · rename_i i hi
      have := List.find?_some hi
      simp [h] at this
    · split at h
      · cases h
      · omega
  · simp
theorem fnB_len (f : Fx) : (fnB f).length ≤ 4102 := by
  unfold fnB
  have := joinB_len f.c
  simp only [List.length_append, le_len]
  omega
theorem fnsB_len : ∀ (fs : List Fx), (fnsB fs).length ≤ 4102 * fs.length
  | [] => by simp [fnsB]
  | f :: fs => by
    have := fnsB_len fs
    have := fnB_len f
    simp only [fnsB, List.flatMap_cons, List.length_append, List.length_cons] at *
    omega
theorem firstBad_zero {α : Type} {p : α → Int} {l : List α} (h : firstBad p l = 0) : ∀ x ∈ l, p x = 0 := by
  intro x hx
  unfold firstBad at h
  split at h
  · rename_i i hi
    have := List.find?_some hi
    simp [h] at this
  · rename_i hi
    have := List.find?_eq_none.1 hi x hx
    simpa using this
theorem fnCk_zero {f : Fx} (h : fnCk f = 0) : numBad f.p f.r f.a = false ∧ joinCk f.c = 0 ∧ opsCk f.c f.r f.a = 0 := by
  unfold fnCk at h
  split at h
  · cases h
  · rename_i h1
    split at h
    · rename_i h2; exact (h2 h).elim
    · rename_i h2
      exact ⟨by simpa using h1, by simpa using h2, h⟩
theorem numBad_false {p r a : Int} (h : numBad p r a = false) : 0 ≤ p ∧ p ≤ 8 ∧ p ≤ r ∧ r ≤ 64 ∧ 0 ≤ a ∧ a ≤ 4096 := by
  unfold numBad at h
  rw [decide_eq_false_iff_not] at h
  omega
theorem modCk_zero {m : Mx} (h : modCk m = 0) : m.d.length ≤ 8192 ∧ 1 ≤ m.f.length ∧ m.f.length ≤ 64 ∧ ∀ f ∈ m.f, fnCk f = 0 := by
  unfold modCk at h
  split at h
  · cases h
  · split at h
    · cases h
    · exact ⟨by omega, by omega, by omega, firstBad_zero h⟩

/-- a literal's row is marked -/
structure Marked (B : Nat) (C : Array Value) (e : TypeId) (w w' : World) : Prop where
  ex : ∃ (b : Nat) (fr fr' : Nat × Nat), B ≤ b ∧ w.heap[b]? = some (.cells C e fr) ∧ w'.heap[b]? = some (.cells C e fr') ∧ Fr (only [b]) w w'
theorem Marked.fr {B : Nat} {C : Array Value} {e : TypeId} {S : Nat → Prop} {W : World} (h : Marked B C e w w') (r : Fr S W w) (hB : W.heap.size ≤ B) : Fr S W w' := by
  obtain ⟨b, fr, fr', h1, h2, h3, h4⟩ := h.ex
  exact r.trans' h4 (fun k hk _ => by simp at hk; omega)
theorem Marked.reads {B : Nat} {C : Array Value} {e : TypeId} {v : Value} {z n : Nat} {cs : List Value} (h : Marked B C e w w') (hr : Reads w v z n cs) : Reads w' v z n cs := by
  obtain ⟨b, fr, fr', h1, h2, h3, h4⟩ := h.ex
  rcases hr with h | ⟨a, cap, rfl, k1, k2, k3, k5⟩
  · exact .inl h
  · refine .inr ⟨a, cap, rfl, k1, k2, k3, fun j u hu => ?_⟩
    have hc := k5 j u hu
    by_cases hb : (a.add j).block = b
    · have : a.add j = ⟨(a.add j).block, (a.add j).off, none⟩ := spot_none hc
      rw [this, hb] at hc ⊢
      simp only [World.cell?, h2] at hc
      simp only [World.cell?, h3]
      exact hc
    · exact h4.cell hc (by simpa using hb)
theorem Marked.heap {B : Nat} {C : Array Value} {e : TypeId} {b : Nat} {cs : Array Value} {t : TypeId} (h : Marked B C e w w') (hb : w.heap[b]? = some (.cells cs t (0, 0))) (hne : cs.size ≠ C.size ∨ t ≠ e) : w'.heap[b]? = some (.cells cs t (0, 0)) := by
  obtain ⟨g, fr, fr', h1, h2, h3, h4⟩ := h.ex
  refine h4.heap hb (fun hk => ?_)
  simp at hk
  subst hk
  rw [hb] at h2
  cases h2
  rcases hne with h | h <;> exact h rfl
theorem Marked.owns {B base n : Nat} {C : Array Value} {e t : TypeId} {v : Value} {xs : List Value} (h : Marked B C e w w') (ho : w.ownsRow base t 1 v n xs) (hn : C.size < n) : w'.ownsRow base t 1 v n xs := by
  refine ⟨ho.1, ?_⟩
  rcases ho.2 with h0 | ⟨g, cap, cur, rfl, hb, hg, r1, r2, r3, r4⟩
  · exact .inl h0
  · exact .inr ⟨g, cap, cur, rfl, hb, h.heap hg (.inl (by omega)), r1, r2, r3, r4⟩
theorem Marked.nums {B base n : Nat} {C : Array Value} {e t : TypeId} {k : IntKind} {v : Value} {xs : List Value} (h : Marked B C e w w') (ho : w.ownsRow base t 1 v n xs) (hn : C.size < n) (hN : Nums k w v) : Nums k w' v := by
  rcases ho.2 with ⟨rfl, h0⟩ | ⟨g, cap, cur, rfl, hb, hg, r1, r2, r3, r4⟩
  · exact Nums.nil _ _ _ _
  · intro g' cur' t' z' hg' hh'
    have : g = g' := by simpa [Value.ownBlock] using hg'
    subst this
    rw [h.heap hg (.inl (by omega))] at hh'
    cases hh'
    exact hN g cur t (0, 0) rfl hg
theorem run_mark (w : World) (b n c B : Nat) (C : Array Value) (e : TypeId) (fr : Nat × Nat) (ht : Tryz.prog.underlying 22 = some (.slice e)) (he : Tryz.prog.underlying e = some (.int .u8)) (h : w.heap[b]? = some (.cells C e fr)) (hB : B ≤ b) :
    (convert 22 22 (.slice (some ⟨b, 0, none⟩) n c)).run Tryz.prog w = .ok (.slice (some ⟨b, 0, none⟩) n c) (w.freeze ⟨b, C.size, none⟩ 1) ∧ Marked B C e w (w.freeze ⟨b, C.size, none⟩ 1) := by
  have hsh : w.shape? b = some (e, C.size) := by unfold World.shape?; rw [h]
  have hf : ∃ fr' : Nat × Nat, (w.freeze ⟨b, C.size, none⟩ 1).heap[b]? = some (.cells C e fr') := by
    unfold World.freeze
    rw [if_neg (by decide)]
    simp [Array.getElem?_modify, h]
  obtain ⟨fr', hf⟩ := hf
  have hq : Fr (only [b]) w (w.freeze ⟨b, C.size, none⟩ 1) := by
    unfold World.freeze
    rw [if_neg (by decide)]
    refine ⟨rfl, rfl, rfl, by simp, fun k hk hs => ?_⟩
    simp only [only_iff, List.mem_singleton] at hs
    simp only [Array.getElem?_modify]
    rw [if_neg (fun e => hs e.symm)]
  exact ⟨by simp [convert, run_underlying ht, run_underlying he, markStringish, hsh], ⟨b, fr, fr', hB, h, hf, hq⟩⟩

theorem Tryz.infoMod : (Tryz.prog.info? 25).map (·.size) = some 2 := by kernel_rfl

set_option maxRecDepth 100000 in
set_option maxHeartbeats 16000000 in
theorem putm_ok (w : World) (m : Mx) (da : Option Addr) (dc : Nat) (fa : Option Addr) (fc : Nat) (hm : ModIn w m da dc fa) (hs : m.Small) :
    Calls Tryz.prog 8 #[.agg #[.slice da m.d.length dc, .slice fa m.f.length fc]] w fun e w' => ∃ v, e = .returned (.tuple #[v, .int .i64 (modCk m)]) ∧ w'.ownsRow w.heap.size 5 1 v (putM m).length (u8s (putM m)) ∧ Nums .u8 w' v ∧ Fr no w w' := by
  have hsz := hs
  obtain ⟨ds, fs⟩ := m
  obtain ⟨hs1, hs2, hs3, -⟩ := hs
  dsimp only at hs1 hs2 hs3 ⊢
  have r0 := (Fr.refl no w).alloc (.cells #[.slice da ds.length dc, .slice fa fs.length fc] 25)
  have R0 := Lib.hid r0
  have HI := Lib.hid (modObj w (.slice da ds.length dc) (.slice fa fs.length fc))
  have HM := Lib.hid (hm.fr r0)
  have HCK := Lib.hid (check_mod _ ⟨ds, fs⟩ da dc fa fc (hm.fr r0) hsz)
  have HS3 := Lib.hid hs3
  have HZ := Lib.hid (fun h => modCk_zero (m := ⟨ds, fs⟩) h)
  have HPM : Hid (putM ⟨ds, fs⟩ = if modCk ⟨ds, fs⟩ = 0 then modB ⟨ds, fs⟩ else []) := Lib.hid rfl
  generalize modCk ⟨ds, fs⟩ = ck at *
  generalize putM ⟨ds, fs⟩ = pm at *
  dsimp only at HCK
  clear r0 hm hs3 hsz
  generalize hw0 : w.alloc (.cells #[.slice da ds.length dc, .slice fa fs.length fc] 25) = wz at *
  go_enter Tryz.func8, Tryz.ntmps8
  obtain ⟨c0, c1⟩ := cells2 HI.out
  go_wp2_with fail
  try rw [hw0]
  clear hw0
  refine HCK.out.mono ?_
  rintro e w1 ⟨rfl, r1⟩
  have R1 := Lib.hid (R0.out.trans r1)
  have HI1 := Lib.hid (r1.heap HI.out (by simp))
  have HM1 := Lib.hid (HM.out.fr r1)
  clear r1 c0 c1 HCK HI HM R0
  obtain ⟨c0, c1⟩ := cells2 HI1.out
  by_cases hck : ck = 0
  case neg =>
    have e1 : (ck != 0) = true := by simpa using hck
    have HP : Hid (pm = []) := Lib.hid (by rw [HPM.out, if_neg hck])
    clear hck
    go_wp2_with fail
    go_ret2
    exact ⟨_, rfl, by rw [HP.out]; exact World.ownsRow_nil _ _ _ _, Nums.nil _ _ _ _, R1.out⟩
  subst hck
  obtain ⟨z1, z2, z3, z4⟩ := HZ.out rfl
  try dsimp only at z1 z2 z3 z4
  have HP : Hid (pm = headB ⟨ds, fs⟩ ++ fnsB fs) := Lib.hid (by rw [HPM.out, if_pos rfl]; rfl)
  have Z4 := Lib.hid z4
  have HW1 := Lib.hid (fun w (n : Nat) hn => number_mod w n 1 hn (.inl rfl))
  have HW2 := Lib.hid (fun w (n : Nat) hn => number_mod w n 2 hn (.inr rfl))
  clear z4 HPM HZ
  go_upto_region 4 with fail
  refine Inv.freeR _ [15, 16, 17, 18, 19, 20, 21, 22, 23, 24, 25, 26, 27, 28, 5] [] (fun i => [15, 16, 17, 18, 19, 20, 21, 22, 23, 24, 25, 26, 27, 28, 5].getD i 0) (fun i v wq => match i with | 0 => ∃ b fr, v = .slice (some ⟨b, 0, none⟩) 3 3 ∧ w1.heap.size ≤ b ∧ wq.heap[b]? = some (.cells #[.int .u8 84, .int .u8 87, .int .u8 1] 5 fr) | 1 => Reads wq v 1 3 (u8s [84, 87, 1]) | 2 => v = .pointer (some ⟨w.heap.size, 0, none⟩) | 3 => v = .slice da ds.length dc | 4 => v = .int .i64 ds.length | 5 => Reads wq v 1 2 (u8s (le ds.length 2)) | 6 => v = .pointer (some ⟨w.heap.size, 0, none⟩) | 7 => v = .slice da ds.length dc | 8 => v = .pointer (some ⟨w.heap.size, 1, none⟩) | 9 => v = .slice fa fs.length fc | 10 => v = .int .i64 fs.length | 11 => Reads wq v 1 1 (u8s (le fs.length 1)) | 12 => ∃ b v0 v1 v3, v = .slice (some ⟨b, 0, none⟩) 4 4 ∧ wq.heap[b]? = some (.cells #[v0, v1, .slice da ds.length dc, v3] 22 (0, 0)) ∧ Reads wq v0 1 3 (u8s [84, 87, 1]) ∧ Reads wq v1 1 2 (u8s (le ds.length 2)) ∧ Reads wq v3 1 1 (u8s (le fs.length 1)) | _ => wq.ownsRow w1.heap.size 5 1 v (headB ⟨ds, fs⟩).length (u8s (headB ⟨ds, fs⟩)) ∧ Nums .u8 wq v) (Marked w1.heap.size #[.int .u8 84, .int .u8 87, .int .u8 1] 5) (by kernel_rfl) (by kernel_rfl) (by decide) (by kernel_rfl) 63 rfl (by decide) ?_ ?_ ?_ ?_ ?_ ?_ ?_ ?_ ?_
  · intro i v wa wb S _ h r hS
    have hn : ∀ k, ¬ S k := fun k hk => by obtain ⟨_, p, hp, _⟩ := hS k hk; cases hp
    have rn : Fr no wa wb := r.mono (fun k hk _ => (hn k hk).elim)
    match i, h with
    | 0, h => obtain ⟨b, fr, h1, h2, h3⟩ := h; exact ⟨b, fr, h1, h2, rn.heap h3 (by simp)⟩
    | 1, h => exact Reads.fr h rn (by simp)
    | 2, h => exact h
    | 3, h => exact h
    | 4, h => exact h
    | 5, h => exact Reads.fr h rn (by simp)
    | 6, h => exact h
    | 7, h => exact h
    | 8, h => exact h
    | 9, h => exact h
    | 10, h => exact h
    | 11, h => exact Reads.fr h rn (by simp)
    | 12, h => obtain ⟨b, v0, v1, v3, h1, h2, h3, h4, h5⟩ := h; exact ⟨b, v0, v1, v3, h1, rn.heap h2 (by simp), h3.fr rn (by simp), h4.fr rn (by simp), h5.fr rn (by simp)⟩
    | _ + 13, h => exact ⟨owns_fr h.1 rn (by simp), h.2.fr rn (fun g hg => (h.1.lt g hg).2)⟩
  · intro wa wb r0 hr
    refine ⟨hr.fr r0 (Nat.le_refl _), fun i v h => ?_, fun p hp => (by cases hp)⟩
    match i, h with
    | 0, h =>
      obtain ⟨b, fr, h1, h2, h3⟩ := h
      obtain ⟨b', f1, f2, g1, g2, g3, g4⟩ := hr.ex
      by_cases hb : b = b'
      · subst hb; exact ⟨b, f2, h1, h2, g3⟩
      · exact ⟨b, fr, h1, h2, g4.heap h3 (by simpa using hb)⟩
    | 1, h => exact hr.reads h
    | 2, h => exact h
    | 3, h => exact h
    | 4, h => exact h
    | 5, h => exact hr.reads h
    | 6, h => exact h
    | 7, h => exact h
    | 8, h => exact h
    | 9, h => exact h
    | 10, h => exact h
    | 11, h => exact hr.reads h
    | 12, h => obtain ⟨b, v0, v1, v3, h1, h2, h3, h4, h5⟩ := h; exact ⟨b, v0, v1, v3, h1, hr.heap h2 (.inr (by decide)), hr.reads h3, hr.reads h4, hr.reads h5⟩
    | _ + 13, h => exact ⟨hr.owns h.1 (by simp [headB, le_len]; omega), hr.nums h.1 (by simp [headB, le_len]; omega) h.2⟩
  · intro p hp
    cases hp
  · intro p hp
    cases hp
  · intro p hp
    cases hp
  · intro p hp
    cases hp
  · intro p hp
    cases hp
  · skip
    intro i o ho hs x dn wq rq hdep hV hnd hun hcl
    have hlt := (List.getElem?_eq_some_iff.1 ho).1
    simp only [List.length_cons, List.length_nil] at hlt
    obtain rfl | rfl | rfl | rfl | rfl | rfl | rfl | rfl | rfl | rfl | rfl | rfl | rfl | rfl | rfl : i = 0 ∨ i = 1 ∨ i = 2 ∨ i = 3 ∨ i = 4 ∨ i = 5 ∨ i = 6 ∨ i = 7 ∨ i = 8 ∨ i = 9 ∨ i = 10 ∨ i = 11 ∨ i = 12 ∨ i = 13 ∨ i = 14 := by omega
    all_goals cases ho
    all_goals try (exact absurd hs (by decide))
    all_goals (unfold Inv.over; simp only [List.foldl_cons, List.foldl_nil, List.setIfInBounds_toArray, List.set_cons_zero, List.set_cons_succ])
    · refine Inv.Step.run (v := .slice (some ⟨wq.heap.size, 0, none⟩) 3 3) (w' := wq.alloc (.cells #[.int .u8 84, .int .u8 87, .int .u8 1] 5)) ?_ ⟨_, rfl, ⟨_, _, rfl, rq.size, heap_new wq _⟩, .inl ((Fr.refl no wq).alloc _)⟩
      go_simp
    · obtain ⟨b, fr, h0, hb, hh⟩ := hV 0 (hdep ⟨0, .data⟩ (by simp) rfl) rfl
      have h0 : x 15 = .slice (some ⟨b, 0, none⟩) 3 3 := h0
      obtain ⟨hrun, hmk⟩ := run_mark wq b 3 3 w1.heap.size _ 5 fr Tryz.underlying22 Tryz.underlying5 hh hb
      refine Inv.Step.run (v := .slice (some ⟨b, 0, none⟩) 3 3) (w' := wq.freeze ⟨b, 3, none⟩ 1) ?_ ⟨_, rfl, ?_, .inr hmk⟩
      · have hrun' : (convert 22 22 (.slice (some ⟨b, 0, none⟩) 3 3)).run Tryz.prog wq = .ok (.slice (some ⟨b, 0, none⟩) 3 3) (wq.freeze ⟨b, 3, none⟩ 1) := hrun
        clear hrun
        go_simp
      · refine hmk.reads ?_
        refine .inr ⟨_, 3, rfl, Nat.le_refl _, by unfold maxLen; omega, by simp [u8s], fun j u hu => ?_⟩
        rw [Addr.add_lit]
        refine cell_of_heap hh ?_
        rw [Nat.zero_add]
        simpa [u8s] using hu
    · skip
      refine Inv.Step.value (v := .pointer (some ⟨w.heap.size, 0, none⟩)) ?_ ⟨_, rfl, rfl, .inl (Fr.refl _ _)⟩
      go_simp
    · have g0 := rq.cell c0 (by simp)
      have h2 : x 17 = .pointer (some ⟨w.heap.size, 0, none⟩) := hV 2 (hdep ⟨2, .data⟩ (by simp) rfl) rfl
      refine Inv.Step.value (v := .slice da ds.length dc) ?_ ⟨_, rfl, rfl, .inl (Fr.refl _ _)⟩
      go_simp
    · skip
      have h3 : x 18 = .slice da ds.length dc := hV 3 (hdep ⟨3, .data⟩ (by simp) rfl) rfl
      refine Inv.Step.value (v := .int .i64 ds.length) ?_ ⟨_, rfl, rfl, .inl (Fr.refl _ _)⟩
      go_simp
    · skip
      have h4 : x 19 = .int .i64 ds.length := hV 4 (hdep ⟨4, .data⟩ (by simp) rfl) rfl
      refine Inv.Step.call2 _ _ _ _ rfl (fun _ _ => rfl) _ (.int .i64 2) h4 rfl ?_
      refine (HW2.out wq ds.length (by omega)).mono ?_
      rintro e w2 ⟨v, rfl, hv, r⟩
      exact ⟨_, rfl, by simpa [le_len] using owns_reads hv, .inl r⟩
    · skip
      refine Inv.Step.value (v := .pointer (some ⟨w.heap.size, 0, none⟩)) ?_ ⟨_, rfl, rfl, .inl (Fr.refl _ _)⟩
      go_simp
    · have g0 := rq.cell c0 (by simp)
      have h2 : x 21 = .pointer (some ⟨w.heap.size, 0, none⟩) := hV 6 (hdep ⟨6, .data⟩ (by simp) rfl) rfl
      refine Inv.Step.value (v := .slice da ds.length dc) ?_ ⟨_, rfl, rfl, .inl (Fr.refl _ _)⟩
      go_simp
    · skip
      refine Inv.Step.value (v := .pointer (some ⟨w.heap.size, 1, none⟩)) ?_ ⟨_, rfl, rfl, .inl (Fr.refl _ _)⟩
      go_simp
    · have g0 := rq.cell c1 (by simp)
      have h2 : x 23 = .pointer (some ⟨w.heap.size, 1, none⟩) := hV 8 (hdep ⟨8, .data⟩ (by simp) rfl) rfl
      refine Inv.Step.value (v := .slice fa fs.length fc) ?_ ⟨_, rfl, rfl, .inl (Fr.refl _ _)⟩
      go_simp
    · skip
      have h3 : x 24 = .slice fa fs.length fc := hV 9 (hdep ⟨9, .data⟩ (by simp) rfl) rfl
      refine Inv.Step.value (v := .int .i64 fs.length) ?_ ⟨_, rfl, rfl, .inl (Fr.refl _ _)⟩
      go_simp
    · skip
      have h4 : x 25 = .int .i64 fs.length := hV 10 (hdep ⟨10, .data⟩ (by simp) rfl) rfl
      refine Inv.Step.call2 _ _ _ _ rfl (fun _ _ => rfl) _ (.int .i64 1) h4 rfl ?_
      refine (HW1.out wq fs.length (by omega)).mono ?_
      rintro e w2 ⟨v, rfl, hv, r⟩
      exact ⟨_, rfl, by simpa [le_len] using owns_reads hv, .inl r⟩
    · have q1 : Reads wq (x 16) 1 3 (u8s [84, 87, 1]) := hV 1 (hdep ⟨1, .data⟩ (by simp) rfl) rfl
      have q5 : Reads wq (x 20) 1 2 (u8s (le ds.length 2)) := hV 5 (hdep ⟨5, .data⟩ (by simp) rfl) rfl
      have q7 : x 22 = .slice da ds.length dc := hV 7 (hdep ⟨7, .data⟩ (by simp) rfl) rfl
      have q11 : Reads wq (x 26) 1 1 (u8s (le fs.length 1)) := hV 11 (hdep ⟨11, .data⟩ (by simp) rfl) rfl
      obtain ⟨a1, n1, e1⟩ := q1.shape
      obtain ⟨a5, n5, e5⟩ := q5.shape
      obtain ⟨a11, n11, e11⟩ := q11.shape
      have ra := (Fr.refl no wq).alloc (.cells #[.slice a1 3 n1, .slice a5 2 n5, .slice da ds.length dc, .slice a11 1 n11] 22)
      rw [e1] at q1
      rw [e5] at q5
      rw [e11] at q11
      refine Inv.Step.run (v := .slice (some ⟨wq.heap.size, 0, none⟩) 4 4) (w' := wq.alloc (.cells #[.slice a1 3 n1, .slice a5 2 n5, .slice da ds.length dc, .slice a11 1 n11] 22)) ?_ ⟨_, rfl, ⟨_, _, _, _, rfl, heap_new wq _, q1.fr ra (by simp), q5.fr ra (by simp), q11.fr ra (by simp)⟩, .inl ra⟩
      go_simp
    · obtain ⟨b, v0, v1, v3, h1, h2, h3, h4, h5⟩ := hV 12 (hdep ⟨12, .data⟩ (by simp) rfl) rfl
      have h1 : x 27 = .slice (some ⟨b, 0, none⟩) 4 4 := h1
      refine Inv.Step.call1 _ _ _ rfl (fun _ _ => rfl) _ h1 ?_
      have CC := concatb_ok wq b [(v0, [84, 87, 1]), (v1, le ds.length 2), (.slice da ds.length dc, ds), (v3, le fs.length 1)] (by simp) h2 (by
        intro p hp
        simp only [List.mem_cons, List.not_mem_nil, or_false] at hp
        rcases hp with rfl | rfl | rfl | rfl
        · exact h3
        · simpa [le_len] using h4
        · exact HM1.out.data.fr rq (by simp)
        · simpa [le_len] using h5) (by simp [sumLen, le_len]; omega)
      refine CC.mono ?_
      rintro e w2 ⟨v, rfl, hv, hn, r⟩
      refine ⟨_, rfl, ⟨owns_base (base := wq.heap.size) ?_ (fun k hk => by have := (hv.lt k hk).1; have := rq.size; omega), hn⟩, .inl r⟩
      simpa [catB, headB] using hv
    · have q13 : wq.ownsRow w1.heap.size 5 1 (x 28) (headB ⟨ds, fs⟩).length (u8s (headB ⟨ds, fs⟩)) ∧ Nums .u8 wq (x 28) := hV 13 (hdep ⟨13, .data⟩ (by simp) rfl) rfl
      refine Inv.Step.value (v := x 28) ?_ ⟨_, rfl, q13, .inl (Fr.refl _ _)⟩
      go_simp
  · skip
    intro x wq rq hV hvar hne
    unfold Inv.over
    simp only [List.foldl_cons, List.foldl_nil, List.setIfInBounds_toArray, List.set_cons_zero, List.set_cons_succ]
    have h14 : wq.ownsRow w1.heap.size 5 1 (x 5) (headB ⟨ds, fs⟩).length (u8s (headB ⟨ds, fs⟩)) ∧ Nums .u8 wq (x 5) := hV 14 (by decide) rfl
    have HO := Lib.hid (owns_base (base' := w.heap.size) h14.1 (fun k hk => by have := (h14.1.lt k hk).1; have := R1.out.size; omega))
    have HN := Lib.hid h14.2
    obtain ⟨xa, xc, e5⟩ := owns_shape h14.1
    have hd1 : (headB ⟨ds, fs⟩).length ≤ 9000 := by simp [headB, le_len]; omega
    have R2 := Lib.hid (R1.out.trans rq)
    have HI2 := Lib.hid (rq.heap HI1.out (by simp))
    have HF2 := Lib.hid (HM1.out.fns.fr rq)
    generalize headB ⟨ds, fs⟩ = hd at *
    rw [e5] at HO HN ⊢
    clear e5 h14 hV hvar hne rq c0 c1
    generalize x 15 = y15
    generalize x 16 = y16
    generalize x 17 = y17
    generalize x 18 = y18
    generalize x 19 = y19
    generalize x 20 = y20
    generalize x 21 = y21
    generalize x 22 = y22
    generalize x 23 = y23
    generalize x 24 = y24
    generalize x 25 = y25
    generalize x 26 = y26
    generalize x 27 = y27
    generalize x 28 = y28
    clear x
    obtain ⟨c0, c1⟩ := cells2 HI2.out
    have HFL := Lib.hid (fnsB_take fs)
    have HFN := Lib.hid (fun k => fnsB_len (fs.take k))
    go_wp2_with fail
    go_loopw [5, 32] (fun x y wr => ∃ k : Nat, k ≤ fs.length ∧ y = .int .i64 k ∧ Hid (wr.ownsRow w.heap.size 5 1 x (hd ++ fnsB (fs.take k)).length (u8s (hd ++ fnsB (fs.take k)))) ∧ Hid (Nums .u8 wr x) ∧ Hid (Fr no wq wr)) (fun _ y _ => (fs.length - intOf y).toNat)
    case atStart => exact ⟨0, by omega, rfl, by simpa [fnsB] using HO, HN, Lib.hid (Fr.refl _ _)⟩
    case round =>
      obtain ⟨k, hk, rfl, hown, hnu, hfr⟩ := hrel
      obtain ⟨va, vc, rfl⟩ := owns_shape hown.out
      by_cases hks : k < fs.length
      · have hks' : (k : Int) < fs.length := by omega
        obtain ⟨b, of, ca, cc, rfl, hi⟩ := HF2.out.fr hfr.out k hks
        obtain ⟨d0, d1, d2, d3⟩ := hi.four
        obtain ⟨y1, y2, y3⟩ := fnCk_zero (Z4.out _ (List.getElem_mem hks))
        have y1' := numBad_false y1
        have hol : (hd ++ fnsB (fs.take k)).length ≤ 300000 := by
          rw [List.length_append]
          have := HFN.out k
          rw [List.length_take] at this
          omega
        have HNX : Hid (hd ++ fnsB (fs.take (k + 1)) = (hd ++ fnsB (fs.take k)) ++ fnB fs[k]) := Lib.hid (by rw [HFL.out k hks, List.append_assoc])
        generalize hd ++ fnsB (fs.take k) = out at *
        have hsm := HS3.out _ (List.getElem_mem hks)
        obtain ⟨f, hf⟩ : ∃ f, f = fs[k] := ⟨_, rfl⟩
        rw [← hf] at hi d0 d1 d2 d3 y1 y2 y3 y1' HNX hsm
        have HJ := Lib.hid (fun w3 (r : Fr no wr w3) => join_ok w3 ca cc f.c (hi.code.fr r) hsm.1 hsm.2)
        have hjl := joinB_len f.c
        have HFB : Hid (fnB f = le f.p.toNat 1 ++ (le f.r.toNat 1 ++ (le f.a.toNat 2 ++ (le (joinB f.c).length 2 ++ joinB f.c)))) := Lib.hid rfl
        rw [y2] at HJ
        clear hi hf y1 y2 y3 hsm
        obtain ⟨p, r, a, is⟩ := f
        dsimp only at d0 d1 d2 d3 y1' HJ HFB hjl
        generalize joinB is = jb at *
        generalize fnB ⟨p, r, a, is⟩ = fb at *
        obtain ⟨pn, rfl⟩ : ∃ n : Nat, p = n := ⟨p.toNat, by omega⟩
        obtain ⟨rn, rfl⟩ : ∃ n : Nat, r = n := ⟨r.toNat, by omega⟩
        obtain ⟨an, rfl⟩ : ∃ n : Nat, a = n := ⟨a.toNat, by omega⟩
        simp only [Int.toNat_natCast] at HFB
        obtain ⟨p1, p2, p3, p4, p5, p6⟩ := y1'
        have q1 : pn ≤ 64 := by omega
        have q2 : rn ≤ 64 := by omega
        have q3 : an ≤ 4096 := by omega
        clear p1 p2 p3 p4 p5 p6
        have r3 := (Fr.refl no wr).alloc (.cells #[.int .i64 pn, .int .i64 rn, .int .i64 an, .slice ca is.length cc] 44)
        have HX3 := Lib.hid (fnObj wr pn rn an (.slice ca is.length cc))
        have HJ3 := Lib.hid (HJ.out _ r3)
        have R3 := Lib.hid (hfr.out.trans r3)
        have HO3 := Lib.hid (owns_fr hown.out r3 (by simp))
        have HN3 := Lib.hid (hnu.out.fr r3 (fun g hg => (hown.out.lt g hg).2))
        clear r3 HJ
        obtain ⟨g0, g1, g2, g3⟩ := cells4 HX3.out
        go_wp2_with fail
        refine HJ3.out.mono ?_
        rintro e w4 ⟨jv, rfl, hj, r4⟩
        obtain ⟨ja, jc, rfl⟩ := owns_shape hj
        have R4 := Lib.hid (R3.out.trans r4)
        have HX4 := Lib.hid (r4.heap HX3.out (by simp))
        have HO4 := Lib.hid (owns_fr HO3.out r4 (by simp))
        have HN4 := Lib.hid (HN3.out.fr r4 (fun g hg => (HO3.out.lt g hg).2))
        have HJR := Lib.hid (owns_reads hj)
        clear r4 hj HJ3 g0 g1 g2 g3 d0 d1 d2 d3 HX3 R3 HO3 HN3
        obtain ⟨g0, g1, g2, g3⟩ := cells4 HX4.out
        go_upto_region 11 with fail
        refine Inv.free _ [45, 46, 47, 48, 49, 50, 51, 52, 53, 54, 55, 56, 57, 58, 59, 60, 5] [] (fun i => [45, 46, 47, 48, 49, 50, 51, 52, 53, 54, 55, 56, 57, 58, 59, 60, 5].getD i 0) (fun i v wq => match i with | 0 => v = .slice va out.length vc | 1 => v = .pointer (some ⟨wr.heap.size, 0, none⟩) | 2 => v = .int .i64 pn | 3 => Reads wq v 1 1 (u8s (le pn 1)) | 4 => v = .pointer (some ⟨wr.heap.size, 1, none⟩) | 5 => v = .int .i64 rn | 6 => Reads wq v 1 1 (u8s (le rn 1)) | 7 => v = .pointer (some ⟨wr.heap.size, 2, none⟩) | 8 => v = .int .i64 an | 9 => Reads wq v 1 2 (u8s (le an 2)) | 10 => v = .slice ja jb.length jc | 11 => v = .int .i64 jb.length | 12 => Reads wq v 1 2 (u8s (le jb.length 2)) | 13 => v = .slice ja jb.length jc | 14 => ∃ b v1 v2 v3 v4, v = .slice (some ⟨b, 0, none⟩) 6 6 ∧ wq.heap[b]? = some (.cells #[.slice va out.length vc, v1, v2, v3, v4, .slice ja jb.length jc] 22 (0, 0)) ∧ Reads wq v1 1 1 (u8s (le pn 1)) ∧ Reads wq v2 1 1 (u8s (le rn 1)) ∧ Reads wq v3 1 2 (u8s (le an 2)) ∧ Reads wq v4 1 2 (u8s (le jb.length 2)) | _ => wq.ownsRow w.heap.size 5 1 v (out ++ fb).length (u8s (out ++ fb)) ∧ Nums .u8 wq v) (by kernel_rfl) (by kernel_rfl) (by decide) (by kernel_rfl) 63 rfl (by decide) ?_ ?_ ?_ ?_ ?_ ?_ ?_ ?_
        · intro i v wa wb S _ h r hS
          have hn : ∀ k, ¬ S k := fun k hk => by obtain ⟨_, p, hp, _⟩ := hS k hk; cases hp
          have rn : Fr no wa wb := r.mono (fun k hk _ => (hn k hk).elim)
          match i, h with
          | 0, h => exact h
          | 1, h => exact h
          | 2, h => exact h
          | 3, h => exact Reads.fr h rn (by simp)
          | 4, h => exact h
          | 5, h => exact h
          | 6, h => exact Reads.fr h rn (by simp)
          | 7, h => exact h
          | 8, h => exact h
          | 9, h => exact Reads.fr h rn (by simp)
          | 10, h => exact h
          | 11, h => exact h
          | 12, h => exact Reads.fr h rn (by simp)
          | 13, h => exact h
          | 14, h => obtain ⟨b, v1, v2, v3, v4, h1, h2, h3, h4, h5, h6⟩ := h; exact ⟨b, v1, v2, v3, v4, h1, rn.heap h2 (by simp), h3.fr rn (by simp), h4.fr rn (by simp), h5.fr rn (by simp), h6.fr rn (by simp)⟩
          | _ + 15, h => exact ⟨owns_fr h.1 rn (by simp), h.2.fr rn (fun g hg => (h.1.lt g hg).2)⟩
        · intro p hp
          cases hp
        · intro p hp
          cases hp
        · intro p hp
          cases hp
        · intro p hp
          cases hp
        · intro p hp
          cases hp
        · skip
          intro i o ho hs x dn wq rq hdep hV hnd hun hcl
          have hlt := (List.getElem?_eq_some_iff.1 ho).1
          simp only [List.length_cons, List.length_nil] at hlt
          obtain rfl | rfl | rfl | rfl | rfl | rfl | rfl | rfl | rfl | rfl | rfl | rfl | rfl | rfl | rfl | rfl | rfl : i = 0 ∨ i = 1 ∨ i = 2 ∨ i = 3 ∨ i = 4 ∨ i = 5 ∨ i = 6 ∨ i = 7 ∨ i = 8 ∨ i = 9 ∨ i = 10 ∨ i = 11 ∨ i = 12 ∨ i = 13 ∨ i = 14 ∨ i = 15 ∨ i = 16 := by omega
          all_goals cases ho
          all_goals try (exact absurd hs (by decide))
          all_goals (unfold Inv.over; simp only [List.foldl_cons, List.foldl_nil, List.setIfInBounds_toArray, List.set_cons_zero, List.set_cons_succ])
          · have hn16 : dn 16 = false := by
              cases h : dn 16 with
              | false => rfl
              | true => have := hcl 16 _ rfl h ⟨0, .phase⟩ (by simp) rfl; rw [hnd] at this; cases this
            have h5 : x 5 = .slice va out.length vc := hun 16 (by decide) hn16 rfl
            refine Inv.Step.value (v := .slice va out.length vc) ?_ ⟨_, rfl, rfl, Fr.refl _ _⟩
            go_simp
          · skip
            refine Inv.Step.value (v := .pointer (some ⟨wr.heap.size, 0, none⟩)) ?_ ⟨_, rfl, rfl, Fr.refl _ _⟩
            go_simp
          · have g := rq.cell g0 (by simp)
            have h2 : x 46 = .pointer (some ⟨wr.heap.size, 0, none⟩) := hV 1 (hdep ⟨1, .data⟩ (by simp) rfl) rfl
            refine Inv.Step.value (v := .int .i64 pn) ?_ ⟨_, rfl, rfl, Fr.refl _ _⟩
            go_simp
          · skip
            have h4 : x 47 = .int .i64 pn := hV 2 (hdep ⟨2, .data⟩ (by simp) rfl) rfl
            refine Inv.Step.call2 _ _ _ _ rfl (fun _ _ => rfl) _ (.int .i64 1) h4 rfl ?_
            refine (HW1.out wq pn (by omega)).mono ?_
            rintro e w2 ⟨v, rfl, hv, r⟩
            exact ⟨_, rfl, by simpa [le_len] using owns_reads hv, r⟩
          · skip
            refine Inv.Step.value (v := .pointer (some ⟨wr.heap.size, 1, none⟩)) ?_ ⟨_, rfl, rfl, Fr.refl _ _⟩
            go_simp
          · have g := rq.cell g1 (by simp)
            have h2 : x 49 = .pointer (some ⟨wr.heap.size, 1, none⟩) := hV 4 (hdep ⟨4, .data⟩ (by simp) rfl) rfl
            refine Inv.Step.value (v := .int .i64 rn) ?_ ⟨_, rfl, rfl, Fr.refl _ _⟩
            go_simp
          · skip
            have h4 : x 50 = .int .i64 rn := hV 5 (hdep ⟨5, .data⟩ (by simp) rfl) rfl
            refine Inv.Step.call2 _ _ _ _ rfl (fun _ _ => rfl) _ (.int .i64 1) h4 rfl ?_
            refine (HW1.out wq rn (by omega)).mono ?_
            rintro e w2 ⟨v, rfl, hv, r⟩
            exact ⟨_, rfl, by simpa [le_len] using owns_reads hv, r⟩
          · skip
            refine Inv.Step.value (v := .pointer (some ⟨wr.heap.size, 2, none⟩)) ?_ ⟨_, rfl, rfl, Fr.refl _ _⟩
            go_simp
          · have g := rq.cell g2 (by simp)
            have h2 : x 52 = .pointer (some ⟨wr.heap.size, 2, none⟩) := hV 7 (hdep ⟨7, .data⟩ (by simp) rfl) rfl
            refine Inv.Step.value (v := .int .i64 an) ?_ ⟨_, rfl, rfl, Fr.refl _ _⟩
            go_simp
          · skip
            have h4 : x 53 = .int .i64 an := hV 8 (hdep ⟨8, .data⟩ (by simp) rfl) rfl
            refine Inv.Step.call2 _ _ _ _ rfl (fun _ _ => rfl) _ (.int .i64 2) h4 rfl ?_
            refine (HW2.out wq an (by omega)).mono ?_
            rintro e w2 ⟨v, rfl, hv, r⟩
            exact ⟨_, rfl, by simpa [le_len] using owns_reads hv, r⟩
          · skip
            refine Inv.Step.value (v := .slice ja jb.length jc) ?_ ⟨_, rfl, rfl, Fr.refl _ _⟩
            go_simp
          · skip
            have h2 : x 55 = .slice ja jb.length jc := hV 10 (hdep ⟨10, .data⟩ (by simp) rfl) rfl
            refine Inv.Step.value (v := .int .i64 jb.length) ?_ ⟨_, rfl, rfl, Fr.refl _ _⟩
            go_simp
          · skip
            have h4 : x 56 = .int .i64 jb.length := hV 11 (hdep ⟨11, .data⟩ (by simp) rfl) rfl
            refine Inv.Step.call2 _ _ _ _ rfl (fun _ _ => rfl) _ (.int .i64 2) h4 rfl ?_
            refine (HW2.out wq jb.length (by omega)).mono ?_
            rintro e w2 ⟨v, rfl, hv, r⟩
            exact ⟨_, rfl, by simpa [le_len] using owns_reads hv, r⟩
          · skip
            refine Inv.Step.value (v := .slice ja jb.length jc) ?_ ⟨_, rfl, rfl, Fr.refl _ _⟩
            go_simp
          · have k0 : x 45 = .slice va out.length vc := hV 0 (hdep ⟨0, .data⟩ (by simp) rfl) rfl
            have k1 : Reads wq (x 48) 1 1 (u8s (le pn 1)) := hV 3 (hdep ⟨3, .data⟩ (by simp) rfl) rfl
            have k2 : Reads wq (x 51) 1 1 (u8s (le rn 1)) := hV 6 (hdep ⟨6, .data⟩ (by simp) rfl) rfl
            have k3 : Reads wq (x 54) 1 2 (u8s (le an 2)) := hV 9 (hdep ⟨9, .data⟩ (by simp) rfl) rfl
            have k4 : Reads wq (x 57) 1 2 (u8s (le jb.length 2)) := hV 12 (hdep ⟨12, .data⟩ (by simp) rfl) rfl
            have k5 : x 58 = .slice ja jb.length jc := hV 13 (hdep ⟨13, .data⟩ (by simp) rfl) rfl
            obtain ⟨a1, n1, e1⟩ := k1.shape
            obtain ⟨a2, n2, e2⟩ := k2.shape
            obtain ⟨a3, n3, e3⟩ := k3.shape
            obtain ⟨a4, n4, e4⟩ := k4.shape
            have ra := (Fr.refl no wq).alloc (.cells #[.slice va out.length vc, .slice a1 1 n1, .slice a2 1 n2, .slice a3 2 n3, .slice a4 2 n4, .slice ja jb.length jc] 22)
            rw [e1] at k1
            rw [e2] at k2
            rw [e3] at k3
            rw [e4] at k4
            refine Inv.Step.run (v := .slice (some ⟨wq.heap.size, 0, none⟩) 6 6) (w' := wq.alloc (.cells #[.slice va out.length vc, .slice a1 1 n1, .slice a2 1 n2, .slice a3 2 n3, .slice a4 2 n4, .slice ja jb.length jc] 22)) ?_ ⟨_, rfl, ⟨_, _, _, _, _, rfl, heap_new wq _, k1.fr ra (by simp), k2.fr ra (by simp), k3.fr ra (by simp), k4.fr ra (by simp)⟩, ra⟩
            go_simp
          · obtain ⟨b, v1, v2, v3, v4, h1, h2, h3, h4, h5, h6⟩ := hV 14 (hdep ⟨14, .data⟩ (by simp) rfl) rfl
            have h1 : x 59 = .slice (some ⟨b, 0, none⟩) 6 6 := h1
            refine Inv.Step.call1 _ _ _ rfl (fun _ _ => rfl) _ h1 ?_
            have CC := concatb_ok wq b [(.slice va out.length vc, out), (v1, le pn 1), (v2, le rn 1), (v3, le an 2), (v4, le jb.length 2), (.slice ja jb.length jc, jb)] (by simp) h2 (by
              intro p hp
              simp only [List.mem_cons, List.not_mem_nil, or_false] at hp
              rcases hp with rfl | rfl | rfl | rfl | rfl | rfl
              · exact (owns_reads HO4.out).fr rq (by simp)
              · simpa [le_len] using h3
              · simpa [le_len] using h4
              · simpa [le_len] using h5
              · simpa [le_len] using h6
              · exact HJR.out.fr rq (by simp)) (by simp [sumLen, le_len]; omega)
            refine CC.mono ?_
            rintro e w2 ⟨v, rfl, hv, hn, r⟩
            refine ⟨_, rfl, ⟨owns_base (base := wq.heap.size) ?_ (fun k hk => by have := (hv.lt k hk).1; have := rq.size; have := R4.out.size; have := R2.out.size; omega), hn⟩, r⟩
            rw [HFB.out]
            simpa [catB] using hv
          · have q13 : wq.ownsRow w.heap.size 5 1 (x 60) (out ++ fb).length (u8s (out ++ fb)) ∧ Nums .u8 wq (x 60) := hV 15 (hdep ⟨15, .data⟩ (by simp) rfl) rfl
            refine Inv.Step.value (v := x 60) ?_ ⟨_, rfl, q13, Fr.refl _ _⟩
            go_simp
        · skip
          intro x wx rx hV hvar hne
          unfold Inv.over
          simp only [List.foldl_cons, List.foldl_nil, List.setIfInBounds_toArray, List.set_cons_zero, List.set_cons_succ]
          have h16 : wx.ownsRow w.heap.size 5 1 (x 5) (out ++ fb).length (u8s (out ++ fb)) ∧ Nums .u8 wx (x 5) := hV 16 (by decide) rfl
          have HO5 : Hid (wx.ownsRow w.heap.size 5 1 (x 5) (hd ++ fnsB (fs.take (k + 1))).length (u8s (hd ++ fnsB (fs.take (k + 1))))) := Lib.hid (by rw [HNX.out]; exact h16.1)
          have HN5 := Lib.hid h16.2
          have R5 := Lib.hid (R4.out.trans rx)
          clear h16 hV hvar hne rx g0 g1 g2 g3
          go_wp2_with fail
          go_roundw
          case rel => exact ⟨k + 1, by omega, by go_num, HO5, HN5, R5⟩
          case measure => first | (simp [intOf]; done) | (simp [intOf]; omega)
      · obtain rfl : k = fs.length := by omega
        have HO5 := hown.out
        rw [List.take_length, ← HP.out] at HO5
        have HO6 := Lib.hid HO5
        clear HO5 hown
        rw [List.take_length, ← HP.out]
        go_wp2_with fail
        go_ret2
        exact ⟨_, rfl, HO6.out, hnu.out.len, R2.out.trans hfr.out⟩

end Go.Proofs.YtdngflhfhmnipaaGreat
