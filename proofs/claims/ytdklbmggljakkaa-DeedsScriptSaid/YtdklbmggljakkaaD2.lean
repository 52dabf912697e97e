import Derived.Test.YtdklbmggljakkaaD1
set_option linter.unusedSimpArgs false
set_option linter.unusedVariables false
set_option linter.unusedSectionVars false
set_option linter.unnecessarySimpa false
namespace Go.Proofs.Ytdklbmggljakkaa
open Go.RowKit

attribute [local go_sem] Program.isFuncB Program.isSliceB

variable {w w' w'' w0 : World}

/-- what is got, and where one stands then -/
def getB (inp : List Nat) (a : Nat) : Int := match inp[a]? with | some b => (b : Int) | none => -1
def getA (inp : List Nat) (a : Nat) : Nat := if a < inp.length then a + 1 else a
section
variable {base t a : Nat} {inp : List Nat} {l : List Dd} {iv lv : Value}
theorem TapeAt.setA {z : Int} {a' : Nat} (h : TapeAt w base t inp a l iv lv) (ha : a' ≤ inp.length) (hz : z = a') : TapeAt (w.setCell ⟨t, 2, none⟩ (.int .i64 z)) base t inp a' l iv lv ∧ Fr (only [t]) w (w.setCell ⟨t, 2, none⟩ (.int .i64 z)) := by
  subst hz
  have q := (Fr.refl (only [t]) w).setCell ⟨t, 2, none⟩ (.int .i64 (a' : Int)) (.inl (by simp))
  refine ⟨⟨heap_setCell (o := 2) h.obj, owns_fr h.inn q (fun i hi e => ?_), owns_fr h.out q (fun i hi e => ?_), ha, h.bt, h.small⟩, q⟩
  · simp at e; subst e; exact row_block_ne h.inn h.obj (by decide) hi
  · simp at e; subst e; exact row_block_ne h.out h.obj (by decide) hi
theorem RefAt.setA {z : Int} {a' : Nat} (h : RefAt w base t inp a l iv lv) (ha : a' ≤ inp.length) (hz : z = a') : RefAt (w.setCell ⟨t, 1, none⟩ (.int .i64 z)) base t inp a' l iv lv ∧ Fr (only [t]) w (w.setCell ⟨t, 1, none⟩ (.int .i64 z)) := by
  subst hz
  have q := (Fr.refl (only [t]) w).setCell ⟨t, 1, none⟩ (.int .i64 (a' : Int)) (.inl (by simp))
  refine ⟨⟨heap_setCell (o := 1) h.obj, h.inn.fr q (fun i hi e => ?_), h.small, h.old, owns_fr h.out q (fun i hi e => ?_), ha, h.bt⟩, q⟩
  · simp at e; subst e; have := h.old i hi; have := h.bt; omega
  · simp at e; subst e; exact row_block_ne h.out h.obj (by decide) hi
structure RefMid (w w' : World) (base t : Nat) (inp : List Nat) (a : Nat) (l' : List Dd) (iv lv lv' : Value) : Prop where
  obj : w'.heap[t]? = some (.cells #[iv, .int .i64 a, lv] 31 (0, 0))
  inn : Reads w' iv 1 inp.length (u8s inp)
  small : ∀ x ∈ inp, x < 256
  old : ∀ k, iv.ownBlock = some k → k < base
  out : w'.ownsRow base 59 2 lv' l'.length (deedsC l')
  le : a ≤ inp.length
  bt : base ≤ t
  fr : Fr (TapeS t lv) w w'
  new : NewRow w lv lv'
theorem RefAt.app {w1 w2 : World} {lv' : Value} {k b : Int} (h : RefAt w1 base t inp a l iv lv) (r : Fr (TapeS t lv) w w1) (ho : w2.ownsRow base 59 2 lv' (l.length + 1) (deedsC l ++ [.int .i64 k, .int .i64 b])) (hg : w1.grownBy w2 lv.ownBlock)
    (hb : ∀ i, lv'.ownBlock = some i → lv.ownBlock = some i ∨ i = w1.heap.size) : RefMid w w2 base t inp a (l ++ [(k, b)]) iv lv lv' := by
  have q : Fr (fun k => lv.ownBlock = some k) w1 w2 := (Fr.refl _ w1).grown hg (fun k hk => .inl hk)
  refine ⟨q.heap h.obj (row_block_ne h.out h.obj (by decide)), h.inn.fr q (fun i hi e => by have := h.old i hi; have := (h.out.lt i e).1; omega), h.small, h.old, by rw [deedsC_snoc, List.length_append]; exact ho, h.le, h.bt, ?_, fun i hi => ?_⟩
  · exact r.trans (q.mono (fun i hi _ => .inr hi))
  · rcases hb i hi with h1 | h1
    · exact .inl h1
    · exact .inr (by rw [h1]; exact r.size)
theorem RefMid.set {w2 : World} {l' : List Dd} {lv' : Value} (h : RefMid w w2 base t inp a l' iv lv lv') :
    RefAt (w2.setCell ⟨t, 2, none⟩ lv') base t inp a l' iv lv' ∧ Fr (TapeS t lv) w (w2.setCell ⟨t, 2, none⟩ lv') := by
  have q := (Fr.refl (only [t]) w2).setCell ⟨t, 2, none⟩ lv' (.inl (by simp))
  refine ⟨⟨heap_setCell (o := 2) h.obj, h.inn.fr q (fun i hi e => ?_), h.small, h.old, owns_fr h.out q (fun i hi e => ?_), h.le, h.bt⟩, h.fr.setCell _ _ (.inl (.inl rfl))⟩
  · simp at e; subst e; have := h.old i hi; have := h.bt; omega
  · simp at e; subst e; exact row_block_ne h.out h.obj (by decide) hi
theorem TapeAt.appS {w1 w2 : World} {lv' : Value} {k b : Int} (h : TapeAt w1 base t inp a l iv lv) (r : Fr (TapeS t lv) w w1) (ho : w2.ownsRow base 59 2 lv' (l.length + 1) (deedsC l ++ [.int .i64 k, .int .i64 b])) (hg : w1.grownBy w2 lv.ownBlock)
    (hb : ∀ i, lv'.ownBlock = some i → lv.ownBlock = some i ∨ i = w1.heap.size) : TapeMid w w2 base t inp a (l ++ [(k, b)]) iv lv lv' := by
  have q : Fr (fun k => lv.ownBlock = some k) w1 w2 := (Fr.refl _ w1).grown hg (fun k hk => .inl hk)
  refine ⟨q.heap h.obj (row_block_ne h.out h.obj (by decide)), owns_fr h.inn q (fun i hi e => rows_ne h.out h.inn (by decide) i e hi), by rw [deedsC_snoc, List.length_append]; exact ho, h.le, h.bt, h.small, ?_, fun i hi => ?_⟩
  · exact r.trans (q.mono (fun i hi _ => .inr hi))
  · rcases hb i hi with h1 | h1
    · exact .inl h1
    · exact .inr (by rw [h1]; exact r.size)

set_option maxHeartbeats 4000000 in
theorem get_ok (w : World) (h : TapeAt w base t inp a l iv lv) (hl : l.length < 100000) (hi : inp.length ≤ 100000) (hb : base ≤ w.heap.size) :
    Calls Try.prog 16 #[.pointer (some ⟨t, 0, none⟩)] w fun e w' => ∃ lv', e = .returned (.tuple #[.int .i64 (getB inp a), .int .i64 0]) ∧ TapeAt w' base t inp (getA inp a) (l ++ [(1, getB inp a)]) iv lv' ∧ Fr (TapeS t lv) w w' ∧ NewRow w lv lv' := by
  obtain ⟨la, lc, rfl⟩ := owns_shape h.out
  obtain ⟨ia, ic, rfl⟩ := owns_shape h.inn
  have AS := Lib.hid (asked_ok w h hl)
  have H := Lib.hid h
  have c1 : w.cell? ⟨t, 1, none⟩ = some (.slice ia inp.length ic) := cell_of_heap h.obj rfl
  have c2 : w.cell? ⟨t, 2, none⟩ = some (.int .i64 a) := cell_of_heap h.obj rfl
  have hle := h.le
  by_cases hlt : a < inp.length
  · have hlt' : (a : Int) < inp.length := by omega
    have HGB : Hid (getB inp a = (inp[a] : Nat)) := Lib.hid (by unfold getB; rw [List.getElem?_eq_getElem hlt])
    have HGA : Hid (getA inp a = a + 1) := Lib.hid (by unfold getA; rw [if_pos hlt])
    obtain ⟨b, o, rfl, cb⟩ := (owns_reads h.inn).at1 (k := a) (u := .int .u8 (inp[a] : Nat)) (by simp [u8s, List.getElem?_eq_getElem hlt])
    have hx : (inp[a] : Nat) < 256 := h.small _ (List.getElem_mem hlt)
    generalize inp[a] = x at *
    clear h
    go_enter Try.func16, Try.ntmps16
    go_wp2_with fail
    refine AS.out.mono ?_
    rintro e w' ⟨rfl, rfl⟩
    go_wp2_with fail
    go_quiet (fail)
    go_wp2_with fail
    go_quiet (fail)
    generalize hwd : World.drewN _ _ = wd at *
    have rd : Fr no w wd := by rw [← hwd]; exact ((Fr.refl no w).drewN _).drewN _
    clear hwd c1 c2 cb
    have H1 := Lib.hid (H.out.fr rd)
    have R1 := Lib.hid (rd.to (T := TapeS t (.slice la l.length lc)))
    have d2 : wd.cell? ⟨t, 2, none⟩ = some (.int .i64 a) := cell_of_heap H1.out.obj rfl
    have g2 : wd.frozen? ⟨t, 2, none⟩ = false := frozen_of_heap H1.out.obj
    have hs2 := H1.out.setA (z := (a : Int) + 1) (a' := a + 1) (by omega) (by omega)
    have H2 := Lib.hid hs2.1
    have R2 := Lib.hid (R1.out.trans (hs2.2.mono (T := TapeS t (.slice la l.length lc)) (fun i hi _ => .inl (by simpa using hi))))
    clear hs2 rd
    go_upto_region 8 with (fail)
    generalize wd.setCell ⟨t, 2, none⟩ (.int .i64 ((a : Int) + 1)) = w2 at *
    have c3 : w2.cell? ⟨t, 3, none⟩ = some (.slice la l.length lc) := cell_of_heap H2.out.obj rfl
    have r5 := (Fr.refl no w2).alloc (.cells #[.int .i64 1, .int .i64 x] 59)
    have H5 := Lib.hid (H2.out.fr r5)
    have R5 := Lib.hid (R2.out.trans (r5.to (T := TapeS t (.slice la l.length lc))))
    have HB5 : Hid (base ≤ (w2.alloc (.cells #[.int .i64 1, .int .i64 x] 59)).heap.size) := Lib.hid (Nat.le_trans hb R5.out.size)
    have HR := Lib.hid (reads_two w2 (.int .i64 1) (.int .i64 x) 59)
    clear r5
    go_wp2_with (at_builtin; (refine wpList_append_at rfl (.tmp 43) _ 29 rfl base 59 (.agg #[.int .i64 0, .int .i64 0]) 2 16 Try.underlying29 Try.infoDeed3 rfl (by decide) _ l.length _ rfl H5.out.out 1 _ HR.out (two_one _ _) (by unfold maxLen; omega) (by omega) HB5.out ?_); intro ga gc w7 ho hg hbk; have HM := Lib.hid (H5.out.appS R5.out ho hg hbk); have x3 : w7.cell? ⟨t, 3, none⟩ = some (.slice la l.length lc) := cell_of_heap HM.out.obj rfl; have y3 : w7.frozen? ⟨t, 3, none⟩ = false := frozen_of_heap HM.out.obj; clear ho hg hbk)
    have HS := HM.out.set
    go_ret2
    rw [HGB.out, HGA.out]
    exact ⟨_, rfl, HS.1, HS.2, HM.out.new⟩
  · have hlt' : ¬ (a : Int) < inp.length := by omega
    have HGB : Hid (getB inp a = -1) := Lib.hid (by unfold getB; rw [List.getElem?_eq_none (by omega)])
    have HGA : Hid (getA inp a = a) := Lib.hid (by unfold getA; rw [if_neg hlt])
    clear h
    go_enter Try.func16, Try.ntmps16
    go_wp2_with fail
    refine AS.out.mono ?_
    rintro e w' ⟨rfl, rfl⟩
    go_wp2_with fail
    go_quiet (fail)
    generalize hwd : World.drewN _ _ = w2 at *
    have rd : Fr no w w2 := by rw [← hwd]; exact (Fr.refl no w).drewN _
    clear hwd
    have H2 := Lib.hid (H.out.fr rd)
    have R2 := Lib.hid (rd.to (T := TapeS t (.slice la l.length lc)))
    clear rd c1 c2
    go_upto_region 8 with (fail)
    have c3 : w2.cell? ⟨t, 3, none⟩ = some (.slice la l.length lc) := cell_of_heap H2.out.obj rfl
    have r5 := (Fr.refl no w2).alloc (.cells #[.int .i64 1, .int .i64 (-1)] 59)
    have H5 := Lib.hid (H2.out.fr r5)
    have R5 := Lib.hid (R2.out.trans (r5.to (T := TapeS t (.slice la l.length lc))))
    have HB5 : Hid (base ≤ (w2.alloc (.cells #[.int .i64 1, .int .i64 (-1)] 59)).heap.size) := Lib.hid (Nat.le_trans hb R5.out.size)
    have HR := Lib.hid (reads_two w2 (.int .i64 1) (.int .i64 (-1)) 59)
    clear r5
    go_wp2_with (at_builtin; (refine wpList_append_at rfl (.tmp 43) _ 29 rfl base 59 (.agg #[.int .i64 0, .int .i64 0]) 2 16 Try.underlying29 Try.infoDeed3 rfl (by decide) _ l.length _ rfl H5.out.out 1 _ HR.out (two_one _ _) (by unfold maxLen; omega) (by omega) HB5.out ?_); intro ga gc w7 ho hg hbk; have HM := Lib.hid (H5.out.appS R5.out ho hg hbk); have x3 : w7.cell? ⟨t, 3, none⟩ = some (.slice la l.length lc) := cell_of_heap HM.out.obj rfl; have y3 : w7.frozen? ⟨t, 3, none⟩ = false := frozen_of_heap HM.out.obj; clear ho hg hbk)
    have HS := HM.out.set
    go_ret2
    rw [HGB.out, HGA.out]
    exact ⟨_, rfl, HS.1, HS.2, HM.out.new⟩

set_option maxRecDepth 100000 in
set_option maxHeartbeats 4000000 in
theorem refget_ok (w : World) (h : RefAt w base t inp a l iv lv) (hl : l.length < 100000) (hi : inp.length ≤ 100000) (hb : base ≤ w.heap.size) :
    Calls Try.prog 17 #[.pointer (some ⟨t, 0, none⟩)] w fun e w' => ∃ lv', e = .returned (.tuple #[.int .i64 (getB inp a), .int .i64 0]) ∧ RefAt w' base t inp (getA inp a) (l ++ [(1, getB inp a)]) iv lv' ∧ Fr (TapeS t lv) w w' ∧ NewRow w lv lv' := by
  obtain ⟨la, lc, rfl⟩ := owns_shape h.out
  obtain ⟨ia, ic, rfl⟩ := h.inn.shape
  have H := Lib.hid h
  have c0 : w.cell? ⟨t, 2, none⟩ = some (.slice la l.length lc) := cell_of_heap h.obj rfl
  have c1 : w.cell? ⟨t, 0, none⟩ = some (.slice ia inp.length ic) := cell_of_heap h.obj rfl
  have c2 : w.cell? ⟨t, 1, none⟩ = some (.int .i64 a) := cell_of_heap h.obj rfl
  have hle := h.le
  have hge : binOp .geq 3 (.int .i64 l.length) (.int .i64 100000) = pure (.bool false) := by rw [binOp_geq, decide_eq_false (by omega)]
  by_cases hlt : a < inp.length
  · have hlt' : (a : Int) < inp.length := by omega
    have HGB : Hid (getB inp a = (inp[a] : Nat)) := Lib.hid (by unfold getB; rw [List.getElem?_eq_getElem hlt])
    have HGA : Hid (getA inp a = a + 1) := Lib.hid (by unfold getA; rw [if_pos hlt])
    obtain ⟨b, o, rfl, cb⟩ := h.inn.at1 (k := a) (u := .int .u8 (inp[a] : Nat)) (by simp [u8s, List.getElem?_eq_getElem hlt])
    have hx : (inp[a] : Nat) < 256 := h.small _ (List.getElem_mem hlt)
    generalize inp[a] = x at *
    clear h
    go_enter Try.func17, Try.ntmps17
    go_wp2_with fail
    go_quiet (fail)
    go_wp2_with fail
    go_quiet (fail)
    generalize hwd : World.drewN _ _ = wd at *
    have rd : Fr no w wd := by rw [← hwd]; exact ((Fr.refl no w).drewN _).drewN _
    clear hwd c0 c1 c2 cb
    have H1 := Lib.hid (H.out.fr rd)
    have R1 := Lib.hid (rd.to (T := TapeS t (.slice la l.length lc)))
    have d2 : wd.cell? ⟨t, 1, none⟩ = some (.int .i64 a) := cell_of_heap H1.out.obj rfl
    have g2 : wd.frozen? ⟨t, 1, none⟩ = false := frozen_of_heap H1.out.obj
    have hs2 := H1.out.setA (z := (a : Int) + 1) (a' := a + 1) (by omega) (by omega)
    have H2 := Lib.hid hs2.1
    have R2 := Lib.hid (R1.out.trans (hs2.2.mono (T := TapeS t (.slice la l.length lc)) (fun i hi _ => .inl (by simpa using hi))))
    clear hs2 rd
    go_upto_region 7 with (fail)
    generalize wd.setCell ⟨t, 1, none⟩ (.int .i64 ((a : Int) + 1)) = w2 at *
    have c3 : w2.cell? ⟨t, 2, none⟩ = some (.slice la l.length lc) := cell_of_heap H2.out.obj rfl
    have r5 := (Fr.refl no w2).alloc (.cells #[.int .i64 1, .int .i64 x] 59)
    have H5 := Lib.hid (H2.out.fr r5)
    have R5 := Lib.hid (R2.out.trans (r5.to (T := TapeS t (.slice la l.length lc))))
    have HB5 : Hid (base ≤ (w2.alloc (.cells #[.int .i64 1, .int .i64 x] 59)).heap.size) := Lib.hid (Nat.le_trans hb R5.out.size)
    have HR := Lib.hid (reads_two w2 (.int .i64 1) (.int .i64 x) 59)
    clear r5
    go_wp2_with (at_builtin; (refine wpList_append_at rfl (.tmp 43) _ 29 rfl base 59 (.agg #[.int .i64 0, .int .i64 0]) 2 16 Try.underlying29 Try.infoDeed3 rfl (by decide) _ l.length _ rfl H5.out.out 1 _ HR.out (two_one _ _) (by unfold maxLen; omega) (by omega) HB5.out ?_); intro ga gc w7 ho hg hbk; have HM := Lib.hid (H5.out.app R5.out ho hg hbk); have x3 : w7.cell? ⟨t, 2, none⟩ = some (.slice la l.length lc) := cell_of_heap HM.out.obj rfl; have y3 : w7.frozen? ⟨t, 2, none⟩ = false := frozen_of_heap HM.out.obj; clear ho hg hbk)
    have HS := HM.out.set
    go_ret2
    rw [HGB.out, HGA.out]
    exact ⟨_, rfl, HS.1, HS.2, HM.out.new⟩
  · have hlt' : ¬ (a : Int) < inp.length := by omega
    have HGB : Hid (getB inp a = -1) := Lib.hid (by unfold getB; rw [List.getElem?_eq_none (by omega)])
    have HGA : Hid (getA inp a = a) := Lib.hid (by unfold getA; rw [if_neg hlt])
    clear h
    go_enter Try.func17, Try.ntmps17
    go_wp2_with fail
    go_quiet (fail)
    generalize hwd : World.drewN _ _ = w2 at *
    have rd : Fr no w w2 := by rw [← hwd]; exact (Fr.refl no w).drewN _
    clear hwd
    have H2 := Lib.hid (H.out.fr rd)
    have R2 := Lib.hid (rd.to (T := TapeS t (.slice la l.length lc)))
    clear rd c0 c1 c2
    go_upto_region 7 with (fail)
    have c3 : w2.cell? ⟨t, 2, none⟩ = some (.slice la l.length lc) := cell_of_heap H2.out.obj rfl
    have r5 := (Fr.refl no w2).alloc (.cells #[.int .i64 1, .int .i64 (-1)] 59)
    have H5 := Lib.hid (H2.out.fr r5)
    have R5 := Lib.hid (R2.out.trans (r5.to (T := TapeS t (.slice la l.length lc))))
    have HB5 : Hid (base ≤ (w2.alloc (.cells #[.int .i64 1, .int .i64 (-1)] 59)).heap.size) := Lib.hid (Nat.le_trans hb R5.out.size)
    have HR := Lib.hid (reads_two w2 (.int .i64 1) (.int .i64 (-1)) 59)
    clear r5
    go_wp2_with (at_builtin; (refine wpList_append_at rfl (.tmp 43) _ 29 rfl base 59 (.agg #[.int .i64 0, .int .i64 0]) 2 16 Try.underlying29 Try.infoDeed3 rfl (by decide) _ l.length _ rfl H5.out.out 1 _ HR.out (two_one _ _) (by unfold maxLen; omega) (by omega) HB5.out ?_); intro ga gc w7 ho hg hbk; have HM := Lib.hid (H5.out.app R5.out ho hg hbk); have x3 : w7.cell? ⟨t, 2, none⟩ = some (.slice la l.length lc) := cell_of_heap HM.out.obj rfl; have y3 : w7.frozen? ⟨t, 2, none⟩ = false := frozen_of_heap HM.out.obj; clear ho hg hbk)
    have HS := HM.out.set
    go_ret2
    rw [HGB.out, HGA.out]
    exact ⟨_, rfl, HS.1, HS.2, HM.out.new⟩

set_option maxRecDepth 100000 in
set_option maxHeartbeats 4000000 in
theorem refput_ok (w : World) (b : Int) (h : RefAt w base t inp a l iv lv) (hl : l.length < 100000) (hb : base ≤ w.heap.size) (hw : -9223372036854775808 ≤ b ∧ b < 9223372036854775808) :
    Calls Try.prog 15 #[.pointer (some ⟨t, 0, none⟩), .int .i64 b] w fun e w' => ∃ lv', e = .returned (.int .i64 0) ∧ RefAt w' base t inp a (l ++ [(2, b % 256)]) iv lv' ∧ Fr (TapeS t lv) w w' ∧ NewRow w lv lv' := by
  obtain ⟨la, lc, rfl⟩ := owns_shape h.out
  have c3 : w.cell? ⟨t, 2, none⟩ = some (.slice la l.length lc) := cell_of_heap h.obj rfl
  have hge : binOp .geq 3 (.int .i64 l.length) (.int .i64 100000) = pure (.bool false) := by rw [binOp_geq, decide_eq_false (by omega)]
  have hm1 : -256 < Int.tmod b 256 := Int.lt_tmod_of_pos b (by decide)
  have hm1b : Int.tmod b 256 < 256 := Int.tmod_lt_of_pos b (by decide)
  have hm2 : IntKind.i64.wrap (Int.tmod b 256 + 256) = Int.tmod b 256 + 256 := by rw [IntKind.wrap_i64]; omega
  have hm3 : Int.tmod (Int.tmod b 256 + 256) 256 = b % 256 := by
    rw [Int.tmod_eq_emod_of_nonneg (by omega)]
    have := Int.tmod_add_mul_tdiv b 256
    omega
  have r5 := (Fr.refl no w).alloc (.cells #[.int .i64 2, .int .i64 (b % 256)] 59)
  have H5 := Lib.hid (h.fr r5)
  have R5 := Lib.hid (r5.to (T := TapeS t (.slice la l.length lc)))
  have HR := Lib.hid (reads_two w (.int .i64 2) (.int .i64 (b % 256)) 59)
  have HB5 : Hid (base ≤ (w.alloc (.cells #[.int .i64 2, .int .i64 (b % 256)] 59)).heap.size) := Lib.hid (Nat.le_trans hb R5.out.size)
  clear h r5 hw
  go_enter Try.func15, Try.ntmps15
  go_wp2_with (at_builtin; (refine wpList_append_at rfl (.tmp 15) _ 29 rfl base 59 (.agg #[.int .i64 0, .int .i64 0]) 2 16 Try.underlying29 Try.infoDeed3 rfl (by decide) _ l.length _ rfl H5.out.out 1 _ HR.out (two_one _ _) (by unfold maxLen; omega) (by omega) HB5.out ?_); intro ga gc w7 ho hg hbk; have HM := Lib.hid (H5.out.app R5.out ho hg hbk); have x3 : w7.cell? ⟨t, 2, none⟩ = some (.slice la l.length lc) := cell_of_heap HM.out.obj rfl; have y3 : w7.frozen? ⟨t, 2, none⟩ = false := frozen_of_heap HM.out.obj; clear ho hg hbk)
  have HS := HM.out.set
  go_ret
  exact ⟨_, rfl, HS.1, HS.2, HM.out.new⟩
end

end Go.Proofs.Ytdklbmggljakkaa
