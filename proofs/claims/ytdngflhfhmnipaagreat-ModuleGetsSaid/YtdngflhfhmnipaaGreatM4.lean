/- shells, shell.same, slices.EqualFunc over shells, module.Same. -/
import Derived.Test.YtdngflhfhmnipaaGreatM3
set_option linter.unusedSimpArgs false
set_option linter.unusedVariables false
set_option linter.unusedSectionVars false
set_option linter.unnecessarySimpa false
namespace Go.Proofs.YtdngflhfhmnipaaGreat
open Go.RowKit

attribute [local go_sem] Program.isFuncB Program.isSliceB

variable {w w' w'' w0 : World}

/-! ### functions in an array of the call's own -/
abbrev FxV := Fx × Option Addr × Nat
def FxV.val (p : FxV) : Value := .slice p.2.1 p.1.c.length p.2.2
def fCells (l : List FxV) : List Value := l.flatMap (fun p => p.1.cells p.val)
theorem fCells_snoc (l : List FxV) (p : FxV) : fCells (l ++ [p]) = fCells l ++ p.1.cells p.val := by simp [fCells]
theorem fCells_len : ∀ (l : List FxV), (fCells l).length = l.length * 4
  | [] => rfl
  | p :: l => by
    have := fCells_len l
    simp only [fCells, List.flatMap_cons, List.length_append, List.length_cons] at *
    rw [this]
    simp [Fx.cells]
    omega
theorem fCells_get : ∀ (l : List FxV) (k j : Nat) (hk : k < l.length), j < 4 → (fCells l)[k * 4 + j]? = (l[k].1.cells l[k].val)[j]?
  | [], k, j, hk, _ => by simp at hk
  | p :: l, k, j, hk, hj => by
    have h6 : (p.1.cells p.val).length = 4 := rfl
    simp only [fCells, List.flatMap_cons]
    match k with
    | 0 => rw [List.getElem?_append_left (by rw [h6]; omega)]; simp
    | k + 1 =>
      rw [List.getElem?_append_right (by rw [h6]; omega), h6, show (k + 1) * 4 + j - 4 = k * 4 + j from by omega]
      exact fCells_get l k j (by simpa using hk) hj
theorem fns_owns {base : Nat} {u : Value} {t : TypeId} {l : List FxV} (h : w.ownsRow base t 4 u l.length (fCells l)) (ha : ∀ p ∈ l, CodeIn w p.2.1 p.1.c) :
    ∃ a c, u = .slice a l.length c ∧ FnsIn w a (l.map Prod.fst) := by
  rcases h.2 with ⟨rfl, h0⟩ | ⟨g, cap, cur, rfl, hb, hg, h1, h2, h3, h4⟩
  · exact ⟨none, 0, by rw [h0], fun k hk => by simp at hk; omega⟩
  · refine ⟨_, _, rfl, fun k hk => ?_⟩
    have hk' : k < l.length := by simpa using hk
    refine ⟨g, 0, l[k].2.1, l[k].2.2, rfl, ⟨fun j v hj => ?_, ?_⟩⟩
    · have hj6 : j < 4 := (List.getElem?_eq_some_iff.1 hj).1
      simp only [List.getElem_map] at hj
      have hj' : (l[k].1.cells l[k].val)[j]? = some v := hj
      rw [← fCells_get l k j hk' hj6] at hj'
      have := h.cells rfl (k * 4 + j) v hj'
      rw [Addr.add_lit] at this
      rw [Nat.zero_add] at this ⊢
      exact this
    · simp only [List.getElem_map]
      exact ha _ (List.getElem_mem hk')
theorem reads_four (w : World) (a0 a1 a2 a3 : Value) (e : TypeId) : Reads (w.alloc (.cells #[a0, a1, a2, a3] e)) (.slice (some ⟨w.heap.size, 0, none⟩) 1 1) 4 1 [a0, a1, a2, a3] := by
  refine .inr ⟨_, 1, rfl, Nat.le_refl _, by unfold maxLen; omega, rfl, fun j u hu => ?_⟩
  rw [Addr.add_lit]
  refine cell_of_heap (heap_new w _) ?_
  rw [Nat.zero_add]
  simpa using hu
theorem four_one (o A B : Int) (l : Nat) (ua : Option Addr) (uc : Nat) (_ : Unit) : ∀ v ∈ [Value.int .i64 o, .int .i64 A, .int .i64 B, .slice ua l uc], v.oneCell' = true := by
  intro v hv
  simp only [List.mem_cons, List.not_mem_nil, or_false] at hv
  rcases hv with rfl | rfl | rfl | rfl <;> rfl
def zeroFn : Array Value := #[.int .i64 0, .int .i64 0, .int .i64 0, .slice none 0 0]
theorem Tryz.infoShell3 : (Tryz.prog.info? 58).map (fun i => (i.zero, i.size, i.bytes)) = some (some (.agg zeroFn), 4, 48) := by kernel_rfl
theorem Tryz.infoShell : (Tryz.prog.info? 58).map (·.size) = some 4 := by kernel_rfl

set_option maxHeartbeats 4000000 in
theorem shells_ok (w : World) (fa : Option Addr) (fc : Nat) (fs : List Fx) (hin : FnsIn w fa fs) (hl : fs.length ≤ 1000) :
    Calls Tryz.prog 33 #[.slice fa fs.length fc] w fun e w' => ∃ a c, e = .returned (.slice a fs.length c) ∧ FnsIn w' a fs ∧ Fr no w w' := by
  have HIN := Lib.hid hin
  clear hin
  go_enter Tryz.func33, Tryz.ntmps33
  go_wp2_with fail
  go_loopw [3, 8] (fun x y wr => ∃ l : List FxV, l.length ≤ fs.length ∧ y = .int .i64 l.length ∧ Hid (l.map Prod.fst = fs.take l.length) ∧ Hid (wr.ownsRow w.heap.size 58 4 x l.length (fCells l)) ∧ Hid (∀ p ∈ l, CodeIn w p.2.1 p.1.c) ∧ Hid (Fr no w wr)) (fun _ y _ => (fs.length - intOf y).toNat)
  case atStart => exact ⟨[], by simp, rfl, Lib.hid rfl, Lib.hid (World.ownsRow_nil _ _ _ _), Lib.hid (fun p hp => (by cases hp)), Lib.hid (Fr.refl _ _)⟩
  case round =>
    obtain ⟨l, hk, rfl, hpre, hown, hcode, hfr⟩ := hrel
    obtain ⟨xa, xc, rfl⟩ := owns_shape hown.out
    by_cases hks : l.length < fs.length
    · have hks' : (l.length : Int) < fs.length := by omega
      obtain ⟨b, of, ca, cc, rfl, hi⟩ := HIN.out.fr hfr.out l.length hks
      obtain ⟨_, _, ca0, cc0, hq, hi0⟩ := HIN.out l.length hks
      obtain ⟨d0, d1, d2, d3⟩ := hi.four
      obtain ⟨ix, hix⟩ : ∃ i, i = fs[l.length] := ⟨_, rfl⟩
      have HSN : Hid (l.map Prod.fst ++ [ix] = fs.take (l.length + 1)) := Lib.hid (by rw [List.take_succ_eq_append_getElem hks, hpre.out, hix])
      have HC0 : Hid (CodeIn w ca ix.c) := Lib.hid (by
        cases hq
        have e3 := hfr.out.cell (hi0.four.2.2.2) (by simp)
        rw [d3] at e3
        cases e3
        rw [hix]
        exact hi0.code)
      rw [← hix] at d0 d1 d2 d3
      clear hi hi0 hq hix
      obtain ⟨fp, fr, far, fcode⟩ := ix
      dsimp only at d0 d1 d2 d3 HC0
      have r6 := (Fr.refl no wr).alloc (.cells #[.int .i64 fp, .int .i64 fr, .int .i64 far, .slice ca fcode.length cc] 44)
      have HI6 := Lib.hid (fnObj wr fp fr far (.slice ca fcode.length cc))
      have r7 := r6.alloc (.cells #[.int .i64 fp, .int .i64 fr, .int .i64 far, .slice ca fcode.length cc] 58)
      have R7 := Lib.hid (hfr.out.trans r7)
      have HO7 := Lib.hid (owns_fr hown.out r7 (by simp))
      have hr7 := (reads_four (wr.alloc (.cells #[.int .i64 fp, .int .i64 fr, .int .i64 far, .slice ca fcode.length cc] 44)) (.int .i64 fp) (.int .i64 fr) (.int .i64 far) (.slice ca fcode.length cc) 58)
      rw [World.size_alloc] at hr7
      have HR7 := Lib.hid hr7
      clear r6 r7 hr7
      obtain ⟨e0, e1, e2, e3⟩ := cells4 HI6.out
      go_wp2_with (at_builtin; (refine wpList_append_at rfl (.tmp 12) _ 57 rfl w.heap.size 58 (.agg zeroFn) 4 48 Tryz.underlying57 Tryz.infoShell3 rfl (by decide) _ l.length _ rfl HO7.out 1 _ HR7.out (four_one _ _ _ _ _ _ ()) (by unfold maxLen; omega) (by omega) R7.out.size ?_); intro gd ge w8 ho hg hb)
      have HO8 : Hid (w8.ownsRow w.heap.size 58 4 (.slice gd (l.length + 1) ge) (l ++ [(Fx.mk fp fr far fcode, ca, cc)]).length (fCells (l ++ [(Fx.mk fp fr far fcode, ca, cc)]))) := Lib.hid (by rw [fCells_snoc, List.length_append]; exact ho)
      have R8 := Lib.hid (R7.out.trans' ((Fr.refl (fun k => (Value.slice xa l.length xc).ownBlock = some k) _).grown hg (fun k hk => .inl hk)) (fun k hk _ => (hown.out.lt k hk).1))
      have HC8 : Hid (∀ p ∈ l ++ [((Fx.mk fp fr far fcode, ca, cc) : FxV)], CodeIn w p.2.1 p.1.c) := Lib.hid (fun p hp => by
        rcases List.mem_append.1 hp with hp | hp
        · exact hcode.out p hp
        · rw [List.mem_singleton] at hp; subst hp; exact HC0.out)
      clear ho hg hb
      go_roundw
      case rel => exact ⟨l ++ [(Fx.mk fp fr far fcode, ca, cc)], by simp; omega, by rw [List.length_append]; go_num, Lib.hid (by rw [List.map_append, List.length_append]; exact HSN.out), HO8, HC8, R8⟩
      case measure => first | (simp [intOf]; done) | (simp [intOf]; omega)
    · have hlk : l.length = fs.length := by omega
      have HLK := Lib.hid hlk
      have HQ : Hid (FnsIn wr xa fs) := Lib.hid (by
        obtain ⟨a, c', h1, h2⟩ := fns_owns hown.out (fun p hp => (hcode.out p hp).fr hfr.out)
        rw [hpre.out, hlk, List.take_length] at h2
        cases h1
        exact h2)
      clear hpre hlk hown hcode
      go_wp2_with fail
      go_ret
      exact ⟨xa, xc, by rw [← HLK.out]; rfl, HQ.out, hfr.out⟩

theorem shellObj (w : World) (p r a : Int) (u : Value) : (w.alloc (.cells #[.int .i64 p, .int .i64 r, .int .i64 a, u] 58)).heap[w.heap.size]? = some (.cells #[.int .i64 p, .int .i64 r, .int .i64 a, u] 58 (0, 0)) := heap_new _ _

set_option maxHeartbeats 4000000 in
theorem shellsame_ok (w : World) (f g : Fx) (ca cb : Option Addr) (c1 c2 : Nat) (hf : CodeIn w ca f.c) (hg : CodeIn w cb g.c) (sf : f.Small) (sg : g.Small) :
    Calls Tryz.prog 34 #[.agg #[.int .i64 f.p, .int .i64 f.r, .int .i64 f.a, .slice ca f.c.length c1], .agg #[.int .i64 g.p, .int .i64 g.r, .int .i64 g.a, .slice cb g.c.length c2]] w fun e w' => e = .returned (.bool (decide (f = g))) ∧ Fr no w w' := by
  obtain ⟨p, r, a, is⟩ := f
  obtain ⟨p', r', a', js⟩ := g
  obtain ⟨s1, s2⟩ := sf
  obtain ⟨s3, s4⟩ := sg
  dsimp only at hf hg s1 s2 s3 s4 ⊢
  have r1 := (Fr.refl no w).alloc (.cells #[.int .i64 p, .int .i64 r, .int .i64 a, .slice ca is.length c1] 58)
  have r2 := r1.alloc (.cells #[.int .i64 p', .int .i64 r', .int .i64 a', .slice cb js.length c2] 58)
  have q2 := (Fr.refl no (w.alloc (.cells #[.int .i64 p, .int .i64 r, .int .i64 a, .slice ca is.length c1] 58))).alloc (.cells #[.int .i64 p', .int .i64 r', .int .i64 a', .slice cb js.length c2] 58)
  have R2 := Lib.hid r2
  have H1 := Lib.hid (q2.heap (shellObj w p r a (.slice ca is.length c1)) (by simp))
  have H2 := Lib.hid (shellObj (w.alloc (.cells #[.int .i64 p, .int .i64 r, .int .i64 a, .slice ca is.length c1] 58)) p' r' a' (.slice cb js.length c2))
  have HE := Lib.hid (eqins_ok _ ca cb c1 c2 is js (hf.fr r2) (hg.fr r2) (by omega) (fun i hi => by have := s2 i hi; omega) (by omega) (fun i hi => by have := s4 i hi; omega))
  have HD : Hid (decide ((⟨p, r, a, is⟩ : Fx) = ⟨p', r', a', js⟩) = (decide (p = p') && (decide (r = r') && (decide (a = a') && decide (is = js))))) := Lib.hid (by simp)
  generalize decide ((⟨p, r, a, is⟩ : Fx) = ⟨p', r', a', js⟩) = q at *
  generalize decide (is = js) = qc at *
  clear r1 r2 q2 hf hg s2 s4
  go_enter Tryz.func34, Tryz.ntmps34
  obtain ⟨e0, e1, e2, e3⟩ := cells4 H1.out
  obtain ⟨d0, d1, d2, d3⟩ := cells4 H2.out
  by_cases hp : p = p'
  case neg =>
    have x1 : (p == p') = false := by simpa using hp
    have HF : Hid (q = false) := Lib.hid (by rw [HD.out, decide_eq_false hp]; rfl)
    clear hp
    go_wp2_with fail
    go_ret
    exact ⟨by rw [HF.out]; rfl, R2.out⟩
  have x1 : (p == p') = true := by simpa using hp
  by_cases hr : r = r'
  case neg =>
    have x2 : (r == r') = false := by simpa using hr
    have HF : Hid (q = false) := Lib.hid (by rw [HD.out, decide_eq_true hp, decide_eq_false hr]; rfl)
    clear hp hr
    go_wp2_with fail
    go_ret
    exact ⟨by rw [HF.out]; rfl, R2.out⟩
  have x2 : (r == r') = true := by simpa using hr
  by_cases ha : a = a'
  case neg =>
    have x3 : (a == a') = false := by simpa using ha
    have HF : Hid (q = false) := Lib.hid (by rw [HD.out, decide_eq_true hp, decide_eq_true hr, decide_eq_false ha]; rfl)
    clear hp hr ha
    go_wp2_with fail
    go_ret
    exact ⟨by rw [HF.out]; rfl, R2.out⟩
  have x3 : (a == a') = true := by simpa using ha
  have HF : Hid (q = qc) := Lib.hid (by rw [HD.out, decide_eq_true hp, decide_eq_true hr, decide_eq_true ha]; rfl)
  clear hp hr ha HD
  go_wp2_with fail
  refine HE.out.mono ?_
  rintro e w3 ⟨rfl, r3⟩
  have R3 := Lib.hid (R2.out.trans r3)
  clear r3
  go_wp2_with fail
  go_ret
  exact ⟨by rw [HF.out]; rfl, R3.out⟩

end Go.Proofs.YtdngflhfhmnipaaGreat
