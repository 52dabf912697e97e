import Derived.Test.YtihnkijeefkefaaGreatMC
import Derived.Test.YtihnkijeefkefaaGreatLA
import Derived.Laws.BytesArg
import Derived.Deep.WholeRow
import Derived.Deep.CutRange
import Derived.Deep.CutBlock
import Derived.Laws.Bits128
set_option linter.unusedSimpArgs false
set_option linter.unusedVariables false
set_option linter.unusedSectionVars false
set_option linter.unnecessarySimpa false
set_option maxRecDepth 100000
namespace Go.Proofs.YtihnkijeefkefaaGreat
open Go.RowKit

attribute [local go_sem] Program.isFuncB Program.isSliceB

variable {w w' w'' w0 : World}

end Go.Proofs.YtihnkijeefkefaaGreat

namespace Go.Proofs.YtihnkijeefkefaaGreat
open Go.RowKit

attribute [local go_sem] Program.isFuncB Program.isSliceB

variable {w w' w'' w0 : World}

/-! ### deeds -/
abbrev Dd := Int × Int
def deedsC (l : List Dd) : List Value := l.flatMap fun d => [.int .i64 d.1, .int .i64 d.2]
theorem deedsC_snoc (l : List Dd) (k b : Int) : deedsC (l ++ [(k, b)]) = deedsC l ++ [.int .i64 k, .int .i64 b] := by simp [deedsC]
theorem deedsC_one (l : List Dd) : ∀ u ∈ deedsC l, u.oneCell' = true := by
  intro u hu
  simp only [deedsC, List.mem_flatMap, List.mem_cons, List.not_mem_nil, or_false] at hu
  obtain ⟨d, _, rfl | rfl⟩ := hu <;> rfl
theorem deedsC_at : ∀ (l : List Dd) (k : Nat) (hk : k < l.length), ((deedsC l).drop (k * 2)).take 2 = [.int .i64 l[k].1, .int .i64 l[k].2]
  | [], k, hk => by simp at hk
  | d :: l, 0, _ => by simp [deedsC]
  | d :: l, k + 1, hk => by
    have := deedsC_at l k (by simpa using hk)
    rw [show (k + 1) * 2 = 2 + k * 2 from by omega, ← List.drop_drop]
    exact this
theorem Tryz.infoDeed3 : (Tryz.prog.info? 179).map (fun i => (i.zero, i.size, i.bytes)) = some (some (.agg #[.int .i64 0, .int .i64 0]), 2, 16) := by kernel_rfl
theorem Tryz.infoDeed : (Tryz.prog.info? 179).map (·.size) = some 2 := by kernel_rfl
theorem reads_two (w : World) (a0 a1 : Value) (e : TypeId) : Reads (w.alloc (.cells #[a0, a1] e)) (.slice (some ⟨w.heap.size, 0, none⟩) 1 1) 2 1 [a0, a1] := by
  refine .inr ⟨_, 1, rfl, Nat.le_refl _, by unfold maxLen; omega, rfl, fun j u hu => ?_⟩
  rw [Addr.add_lit]
  refine cell_of_heap (heap_new w _) ?_
  rw [Nat.zero_add]
  simpa using hu
theorem two_one (a b : Int) : ∀ v ∈ [Value.int .i64 a, .int .i64 b], v.oneCell' = true := by
  intro v hv
  simp only [List.mem_cons, List.not_mem_nil, or_false] at hv
  rcases hv with rfl | rfl <;> rfl
theorem i64_and255 (n : Int) : bits .and .i64 n 255 = n % 256 := by
  have h255 : (BitVec.ofInt 64 255).toNat = 2 ^ 8 - 1 := by decide
  have key : (BitVec.ofInt 64 n &&& BitVec.ofInt 64 255).toNat = (n % ((2 ^ 64 : Nat) : Int)).toNat % 2 ^ 8 := by
    rw [BitVec.toNat_and, BitVec.toNat_ofInt, h255, Nat.and_two_pow_sub_one_eq_mod]
  show IntKind.i64.wrap ((BitVec.ofInt 64 n &&& BitVec.ofInt 64 255).toNat : Nat) = n % 256
  rw [key, IntKind.wrap_i64]
  omega

/-! ### tapes -/
structure TapeAt (w : World) (base t : Nat) (inp : List Nat) (a : Nat) (l : List Dd) (iv lv : Value) : Prop where
  obj : w.heap[t]? = some (.cells #[.bool true, iv, .int .i64 a, lv] 181 (0, 0))
  inn : w.ownsRow base 5 1 iv inp.length (u8s inp)
  out : w.ownsRow base 179 2 lv l.length (deedsC l)
  le : a ≤ inp.length
  bt : base ≤ t
  small : ∀ x ∈ inp, x < 256
structure RefAt (w : World) (base t : Nat) (inp : List Nat) (a : Nat) (l : List Dd) (iv lv : Value) : Prop where
  obj : w.heap[t]? = some (.cells #[iv, .int .i64 a, lv] 132 (0, 0))
  inn : Reads w iv 1 inp.length (u8s inp)
  small : ∀ x ∈ inp, x < 256
  old : ∀ k, iv.ownBlock = some k → k < base
  out : w.ownsRow base 179 2 lv l.length (deedsC l)
  le : a ≤ inp.length
  bt : base ≤ t
section
variable {base t a : Nat} {inp : List Nat} {l : List Dd} {iv lv : Value}
theorem TapeAt.frx {S : Nat → Prop} (h : TapeAt w base t inp a l iv lv) (r : Fr S w w') (h1 : ¬ S t) (h2 : ∀ k, iv.ownBlock = some k → ¬ S k) (h3 : ∀ k, lv.ownBlock = some k → ¬ S k) : TapeAt w' base t inp a l iv lv :=
  ⟨r.heap h.obj h1, owns_fr h.inn r h2, owns_fr h.out r h3, h.le, h.bt, h.small⟩
theorem TapeAt.fr (h : TapeAt w base t inp a l iv lv) (r : Fr no w w') : TapeAt w' base t inp a l iv lv := h.frx r (by simp) (by simp) (by simp)
theorem RefAt.frx {S : Nat → Prop} (h : RefAt w base t inp a l iv lv) (r : Fr S w w') (h1 : ¬ S t) (h2 : ∀ k, iv.ownBlock = some k → ¬ S k) (h3 : ∀ k, lv.ownBlock = some k → ¬ S k) : RefAt w' base t inp a l iv lv :=
  ⟨r.heap h.obj h1, h.inn.fr r h2, h.small, h.old, owns_fr h.out r h3, h.le, h.bt⟩
theorem RefAt.fr (h : RefAt w base t inp a l iv lv) (r : Fr no w w') : RefAt w' base t inp a l iv lv := h.frx r (by simp) (by simp) (by simp)
end

theorem none_at (w : World) (t : Nat) (q : Bool) (x y z : Value) (h : w.heap[t]? = some (.cells #[.bool q, x, y, z] 181 (0, 0))) :
    Calls Tryz.prog 157 #[.pointer (some ⟨t, 0, none⟩)] w fun e w' => e = .returned (.bool (!q)) ∧ w = w' := by
  have c0 := cell_of_heap (o := 0) h rfl
  clear h
  go_enter Tryz.func157, Tryz.ntmps157
  go_wp2_with fail
  go_ret
  exact ⟨rfl, rfl⟩

section
variable {base t a : Nat} {inp : List Nat} {l : List Dd} {iv lv : Value}
set_option maxRecDepth 100000 in
theorem asked_ok (w : World) (h : TapeAt w base t inp a l iv lv) (hl : l.length < 100000) :
    Calls Tryz.prog 156 #[.pointer (some ⟨t, 0, none⟩)] w fun e w' => e = .returned (.int .i64 0) ∧ w = w' := by
  obtain ⟨la, lc, rfl⟩ := owns_shape h.out
  have NN := Lib.hid (none_at w t true _ _ _ h.obj)
  have c3 : w.cell? ⟨t, 3, none⟩ = some (.slice la l.length lc) := cell_of_heap h.obj rfl
  have hge : binOp .geq 3 (.int .i64 l.length) (.int .i64 100000) = pure (.bool false) := by rw [binOp_geq, decide_eq_false (by omega)]
  clear h hl
  go_enter Tryz.func156, Tryz.ntmps156
  go_wp2_with fail
  refine NN.out.mono ?_
  rintro e w' ⟨rfl, rfl⟩
  go_wp2_with fail
  go_ret
  exact ⟨rfl, rfl⟩
/-- what a call on a tape turns -/
def TapeS (t : Nat) (lv : Value) : Nat → Prop := fun k => k = t ∨ lv.ownBlock = some k
def NewRow (w : World) (lv lv' : Value) : Prop := ∀ k, lv'.ownBlock = some k → lv.ownBlock = some k ∨ w.heap.size ≤ k

/-- behind the append -/
structure TapeMid (w w' : World) (base t : Nat) (inp : List Nat) (a : Nat) (l' : List Dd) (iv lv lv' : Value) : Prop where
  obj : w'.heap[t]? = some (.cells #[.bool true, iv, .int .i64 a, lv] 181 (0, 0))
  inn : w'.ownsRow base 5 1 iv inp.length (u8s inp)
  out : w'.ownsRow base 179 2 lv' l'.length (deedsC l')
  le : a ≤ inp.length
  bt : base ≤ t
  small : ∀ x ∈ inp, x < 256
  fr : Fr (TapeS t lv) w w'
  new : NewRow w lv lv'
theorem TapeAt.app {w1 w2 : World} {lv' : Value} {k b : Int} (h : TapeAt w1 base t inp a l iv lv) (r : Fr no w w1) (ho : w2.ownsRow base 179 2 lv' (l.length + 1) (deedsC l ++ [.int .i64 k, .int .i64 b])) (hg : w1.grownBy w2 lv.ownBlock)
    (hb : ∀ i, lv'.ownBlock = some i → lv.ownBlock = some i ∨ i = w1.heap.size) : TapeMid w w2 base t inp a (l ++ [(k, b)]) iv lv lv' := by
  have q : Fr (fun k => lv.ownBlock = some k) w1 w2 := (Fr.refl _ w1).grown hg (fun k hk => .inl hk)
  refine ⟨q.heap h.obj (row_block_ne h.out h.obj (by decide)), owns_fr h.inn q (fun i hi e => rows_ne h.out h.inn (by decide) i e hi), by rw [deedsC_snoc, List.length_append]; exact ho, h.le, h.bt, h.small, ?_, fun i hi => ?_⟩
  · exact ((r.to : Fr (TapeS t lv) w w1)).trans (q.mono (fun i hi _ => .inr hi))
  · rcases hb i hi with h1 | h1
    · exact .inl h1
    · exact .inr (by rw [h1]; exact r.size)
theorem TapeMid.set {w2 : World} {l' : List Dd} {lv' : Value} (h : TapeMid w w2 base t inp a l' iv lv lv') :
    TapeAt (w2.setCell ⟨t, 3, none⟩ lv') base t inp a l' iv lv' ∧ Fr (TapeS t lv) w (w2.setCell ⟨t, 3, none⟩ lv') := by
  have q := (Fr.refl (only [t]) w2).setCell ⟨t, 3, none⟩ lv' (.inl (by simp))
  refine ⟨⟨heap_setCell (o := 3) h.obj, owns_fr h.inn q (fun i hi e => ?_), owns_fr h.out q (fun i hi e => ?_), h.le, h.bt, h.small⟩, h.fr.setCell _ _ (.inl (.inl rfl))⟩
  · simp at e; subst e; exact row_block_ne h.inn h.obj (by decide) hi
  · simp at e; subst e; exact row_block_ne h.out h.obj (by decide) hi

set_option maxHeartbeats 4000000 in
theorem put_ok (w : World) (b : Int) (h : TapeAt w base t inp a l iv lv) (hl : l.length < 100000) (hb : base ≤ w.heap.size) :
    Calls Tryz.prog 105 #[.pointer (some ⟨t, 0, none⟩), .int .i64 b] w fun e w' => ∃ lv', e = .returned (.int .i64 0) ∧ TapeAt w' base t inp a (l ++ [(2, b % 256)]) iv lv' ∧ Fr (TapeS t lv) w w' ∧ NewRow w lv lv' := by
  obtain ⟨la, lc, rfl⟩ := owns_shape h.out
  have AS := Lib.hid (asked_ok w h hl)
  have c3 : w.cell? ⟨t, 3, none⟩ = some (.slice la l.length lc) := cell_of_heap h.obj rfl
  have H := Lib.hid h
  have hand := i64_and255 b
  have r5 := (Fr.refl no w).alloc (.cells #[.int .i64 2, .int .i64 (b % 256)] 179)
  have H5 := Lib.hid (h.fr r5)
  have R5 := Lib.hid r5
  have HR := Lib.hid (reads_two w (.int .i64 2) (.int .i64 (b % 256)) 179)
  clear h r5
  go_enter Tryz.func105, Tryz.ntmps105
  go_wp2_with fail
  refine AS.out.mono ?_
  rintro e w' ⟨rfl, rfl⟩
  go_wp2_with (at_builtin; (refine wpList_append_at rfl (.tmp 15) _ 97 rfl base 179 (.agg #[.int .i64 0, .int .i64 0]) 2 16 Tryz.underlying97 Tryz.infoDeed3 rfl (by decide) _ l.length _ rfl H5.out.out 1 _ HR.out (two_one _ _) (by unfold maxLen; omega) (by omega) (by simp; omega) ?_); intro ga gc w7 ho hg hbk; have HM := Lib.hid (H5.out.app R5.out ho hg hbk); have x3 : w7.cell? ⟨t, 3, none⟩ = some (.slice la l.length lc) := cell_of_heap HM.out.obj rfl; have y3 : w7.frozen? ⟨t, 3, none⟩ = false := frozen_of_heap HM.out.obj; clear ho hg hbk c3)
  have HS := HM.out.set
  go_ret
  exact ⟨_, rfl, HS.1, HS.2, HM.out.new⟩
end

end Go.Proofs.YtihnkijeefkefaaGreat

namespace Go.Proofs.YtihnkijeefkefaaGreat
open Go.RowKit

attribute [local go_sem] Program.isFuncB Program.isSliceB

variable {w w' w'' w0 : World}

/-- what is got, and where one stands then -/
def tgB (inp : List Nat) (a : Nat) : Int := match inp[a]? with | some b => (b : Int) | none => -1
def tgA (inp : List Nat) (a : Nat) : Nat := if a < inp.length then a + 1 else a
section
variable {base t a : Nat} {inp : List Nat} {l : List Dd} {iv lv : Value}
theorem TapeAt.setA {z : Int} {a' : Nat} (h : TapeAt w base t inp a l iv lv) (ha : a' ≤ inp.length) (hz : z = a') : TapeAt (w.setCell ⟨t, 2, none⟩ (.int .i64 z)) base t inp a' l iv lv ∧ Fr (only [t]) w (w.setCell ⟨t, 2, none⟩ (.int .i64 z)) := by
  subst hz
  have q := (Fr.refl (only [t]) w).setCell ⟨t, 2, none⟩ (.int .i64 (a' : Int)) (.inl (by simp))
  refine ⟨⟨heap_setCell (o := 2) h.obj, owns_fr h.inn q (fun i hi e => ?_), owns_fr h.out q (fun i hi e => ?_), ha, h.bt, h.small⟩, q⟩
  · simp at e; subst e; exact row_block_ne h.inn h.obj (by decide) hi
  · simp at e; subst e; exact row_block_ne h.out h.obj (by decide) hi
theorem RefAt.setA {z : Int} {a' : Nat} (h : RefAt w base t inp a l iv lv) (ha : a' ≤ inp.length) (hz : z = a') : RefAt (w.setCell ⟨t, 1, none⟩ (.int .i64 z)) base t inp a' l iv lv ∧ Fr (only [t]) w (w.setCell ⟨t, 1, none⟩ (.int .i64 z)) := by
  subst hz
  have q := (Fr.refl (only [t]) w).setCell ⟨t, 1, none⟩ (.int .i64 (a' : Int)) (.inl (by simp))
  refine ⟨⟨heap_setCell (o := 1) h.obj, h.inn.fr q (fun i hi e => ?_), h.small, h.old, owns_fr h.out q (fun i hi e => ?_), ha, h.bt⟩, q⟩
  · simp at e; subst e; have := h.old i hi; have := h.bt; omega
  · simp at e; subst e; exact row_block_ne h.out h.obj (by decide) hi
structure RefMid (w w' : World) (base t : Nat) (inp : List Nat) (a : Nat) (l' : List Dd) (iv lv lv' : Value) : Prop where
  obj : w'.heap[t]? = some (.cells #[iv, .int .i64 a, lv] 132 (0, 0))
  inn : Reads w' iv 1 inp.length (u8s inp)
  small : ∀ x ∈ inp, x < 256
  old : ∀ k, iv.ownBlock = some k → k < base
  out : w'.ownsRow base 179 2 lv' l'.length (deedsC l')
  le : a ≤ inp.length
  bt : base ≤ t
  fr : Fr (TapeS t lv) w w'
  new : NewRow w lv lv'
theorem RefAt.app {w1 w2 : World} {lv' : Value} {k b : Int} (h : RefAt w1 base t inp a l iv lv) (r : Fr (TapeS t lv) w w1) (ho : w2.ownsRow base 179 2 lv' (l.length + 1) (deedsC l ++ [.int .i64 k, .int .i64 b])) (hg : w1.grownBy w2 lv.ownBlock)
    (hb : ∀ i, lv'.ownBlock = some i → lv.ownBlock = some i ∨ i = w1.heap.size) : RefMid w w2 base t inp a (l ++ [(k, b)]) iv lv lv' := by
  have q : Fr (fun k => lv.ownBlock = some k) w1 w2 := (Fr.refl _ w1).grown hg (fun k hk => .inl hk)
  refine ⟨q.heap h.obj (row_block_ne h.out h.obj (by decide)), h.inn.fr q (fun i hi e => by have := h.old i hi; have := (h.out.lt i e).1; omega), h.small, h.old, by rw [deedsC_snoc, List.length_append]; exact ho, h.le, h.bt, ?_, fun i hi => ?_⟩
  · exact r.trans (q.mono (fun i hi _ => .inr hi))
  · rcases hb i hi with h1 | h1
    · exact .inl h1
    · exact .inr (by rw [h1]; exact r.size)
theorem RefMid.set {w2 : World} {l' : List Dd} {lv' : Value} (h : RefMid w w2 base t inp a l' iv lv lv') :
    RefAt (w2.setCell ⟨t, 2, none⟩ lv') base t inp a l' iv lv' ∧ Fr (TapeS t lv) w (w2.setCell ⟨t, 2, none⟩ lv') := by
  have q := (Fr.refl (only [t]) w2).setCell ⟨t, 2, none⟩ lv' (.inl (by simp))
  refine ⟨⟨heap_setCell (o := 2) h.obj, h.inn.fr q (fun i hi e => ?_), h.small, h.old, owns_fr h.out q (fun i hi e => ?_), h.le, h.bt⟩, h.fr.setCell _ _ (.inl (.inl rfl))⟩
  · simp at e; subst e; have := h.old i hi; have := h.bt; omega
  · simp at e; subst e; exact row_block_ne h.out h.obj (by decide) hi
theorem TapeAt.appS {w1 w2 : World} {lv' : Value} {k b : Int} (h : TapeAt w1 base t inp a l iv lv) (r : Fr (TapeS t lv) w w1) (ho : w2.ownsRow base 179 2 lv' (l.length + 1) (deedsC l ++ [.int .i64 k, .int .i64 b])) (hg : w1.grownBy w2 lv.ownBlock)
    (hb : ∀ i, lv'.ownBlock = some i → lv.ownBlock = some i ∨ i = w1.heap.size) : TapeMid w w2 base t inp a (l ++ [(k, b)]) iv lv lv' := by
  have q : Fr (fun k => lv.ownBlock = some k) w1 w2 := (Fr.refl _ w1).grown hg (fun k hk => .inl hk)
  refine ⟨q.heap h.obj (row_block_ne h.out h.obj (by decide)), owns_fr h.inn q (fun i hi e => rows_ne h.out h.inn (by decide) i e hi), by rw [deedsC_snoc, List.length_append]; exact ho, h.le, h.bt, h.small, ?_, fun i hi => ?_⟩
  · exact r.trans (q.mono (fun i hi _ => .inr hi))
  · rcases hb i hi with h1 | h1
    · exact .inl h1
    · exact .inr (by rw [h1]; exact r.size)

set_option maxHeartbeats 4000000 in
theorem get_ok (w : World) (h : TapeAt w base t inp a l iv lv) (hl : l.length < 100000) (hi : inp.length ≤ 100000) (hb : base ≤ w.heap.size) :
    Calls Tryz.prog 102 #[.pointer (some ⟨t, 0, none⟩)] w fun e w' => ∃ lv', e = .returned (.tuple #[.int .i64 (tgB inp a), .int .i64 0]) ∧ TapeAt w' base t inp (tgA inp a) (l ++ [(1, tgB inp a)]) iv lv' ∧ Fr (TapeS t lv) w w' ∧ NewRow w lv lv' := by
  obtain ⟨la, lc, rfl⟩ := owns_shape h.out
  obtain ⟨ia, ic, rfl⟩ := owns_shape h.inn
  have AS := Lib.hid (asked_ok w h hl)
  have H := Lib.hid h
  have c1 : w.cell? ⟨t, 1, none⟩ = some (.slice ia inp.length ic) := cell_of_heap h.obj rfl
  have c2 : w.cell? ⟨t, 2, none⟩ = some (.int .i64 a) := cell_of_heap h.obj rfl
  have hle := h.le
  by_cases hlt : a < inp.length
  · have hlt' : (a : Int) < inp.length := by omega
    have HGB : Hid (tgB inp a = (inp[a] : Nat)) := Lib.hid (by unfold tgB; rw [List.getElem?_eq_getElem hlt])
    have HGA : Hid (tgA inp a = a + 1) := Lib.hid (by unfold tgA; rw [if_pos hlt])
    obtain ⟨b, o, rfl, cb⟩ := (owns_reads h.inn).at1 (k := a) (u := .int .u8 (inp[a] : Nat)) (by simp [u8s, List.getElem?_eq_getElem hlt])
    have hx : (inp[a] : Nat) < 256 := h.small _ (List.getElem_mem hlt)
    generalize inp[a] = x at *
    clear h
    go_enter Tryz.func102, Tryz.ntmps102
    go_wp2_with fail
    refine AS.out.mono ?_
    rintro e w' ⟨rfl, rfl⟩
    go_wp2_with fail
    go_quiet (fail)
    go_wp2_with fail
    go_quiet (fail)
    generalize hwd : World.drewN _ _ = wd at *
    have rd : Fr no w wd := by rw [← hwd]; exact ((Fr.refl no w).drewN _).drewN _
    clear hwd c1 c2 cb
    have H1 := Lib.hid (H.out.fr rd)
    have R1 := Lib.hid (rd.to (T := TapeS t (.slice la l.length lc)))
    have d2 : wd.cell? ⟨t, 2, none⟩ = some (.int .i64 a) := cell_of_heap H1.out.obj rfl
    have g2 : wd.frozen? ⟨t, 2, none⟩ = false := frozen_of_heap H1.out.obj
    have hs2 := H1.out.setA (z := (a : Int) + 1) (a' := a + 1) (by omega) (by omega)
    have H2 := Lib.hid hs2.1
    have R2 := Lib.hid (R1.out.trans (hs2.2.mono (T := TapeS t (.slice la l.length lc)) (fun i hi _ => .inl (by simpa using hi))))
    clear hs2 rd
    go_upto_region 8 with (fail)
    generalize wd.setCell ⟨t, 2, none⟩ (.int .i64 ((a : Int) + 1)) = w2 at *
    have c3 : w2.cell? ⟨t, 3, none⟩ = some (.slice la l.length lc) := cell_of_heap H2.out.obj rfl
    have r5 := (Fr.refl no w2).alloc (.cells #[.int .i64 1, .int .i64 x] 179)
    have H5 := Lib.hid (H2.out.fr r5)
    have R5 := Lib.hid (R2.out.trans (r5.to (T := TapeS t (.slice la l.length lc))))
    have HB5 : Hid (base ≤ (w2.alloc (.cells #[.int .i64 1, .int .i64 x] 179)).heap.size) := Lib.hid (Nat.le_trans hb R5.out.size)
    have HR := Lib.hid (reads_two w2 (.int .i64 1) (.int .i64 x) 179)
    clear r5
    go_wp2_with (at_builtin; (refine wpList_append_at rfl (.tmp 43) _ 97 rfl base 179 (.agg #[.int .i64 0, .int .i64 0]) 2 16 Tryz.underlying97 Tryz.infoDeed3 rfl (by decide) _ l.length _ rfl H5.out.out 1 _ HR.out (two_one _ _) (by unfold maxLen; omega) (by omega) HB5.out ?_); intro ga gc w7 ho hg hbk; have HM := Lib.hid (H5.out.appS R5.out ho hg hbk); have x3 : w7.cell? ⟨t, 3, none⟩ = some (.slice la l.length lc) := cell_of_heap HM.out.obj rfl; have y3 : w7.frozen? ⟨t, 3, none⟩ = false := frozen_of_heap HM.out.obj; clear ho hg hbk)
    have HS := HM.out.set
    go_ret2
    rw [HGB.out, HGA.out]
    exact ⟨_, rfl, HS.1, HS.2, HM.out.new⟩
  · have hlt' : ¬ (a : Int) < inp.length := by omega
    have HGB : Hid (tgB inp a = -1) := Lib.hid (by unfold tgB; rw [List.getElem?_eq_none (by omega)])
    have HGA : Hid (tgA inp a = a) := Lib.hid (by unfold tgA; rw [if_neg hlt])
    clear h
    go_enter Tryz.func102, Tryz.ntmps102
    go_wp2_with fail
    refine AS.out.mono ?_
    rintro e w' ⟨rfl, rfl⟩
    go_wp2_with fail
    go_quiet (fail)
    generalize hwd : World.drewN _ _ = w2 at *
    have rd : Fr no w w2 := by rw [← hwd]; exact (Fr.refl no w).drewN _
    clear hwd
    have H2 := Lib.hid (H.out.fr rd)
    have R2 := Lib.hid (rd.to (T := TapeS t (.slice la l.length lc)))
    clear rd c1 c2
    go_upto_region 8 with (fail)
    have c3 : w2.cell? ⟨t, 3, none⟩ = some (.slice la l.length lc) := cell_of_heap H2.out.obj rfl
    have r5 := (Fr.refl no w2).alloc (.cells #[.int .i64 1, .int .i64 (-1)] 179)
    have H5 := Lib.hid (H2.out.fr r5)
    have R5 := Lib.hid (R2.out.trans (r5.to (T := TapeS t (.slice la l.length lc))))
    have HB5 : Hid (base ≤ (w2.alloc (.cells #[.int .i64 1, .int .i64 (-1)] 179)).heap.size) := Lib.hid (Nat.le_trans hb R5.out.size)
    have HR := Lib.hid (reads_two w2 (.int .i64 1) (.int .i64 (-1)) 179)
    clear r5
    go_wp2_with (at_builtin; (refine wpList_append_at rfl (.tmp 43) _ 97 rfl base 179 (.agg #[.int .i64 0, .int .i64 0]) 2 16 Tryz.underlying97 Tryz.infoDeed3 rfl (by decide) _ l.length _ rfl H5.out.out 1 _ HR.out (two_one _ _) (by unfold maxLen; omega) (by omega) HB5.out ?_); intro ga gc w7 ho hg hbk; have HM := Lib.hid (H5.out.appS R5.out ho hg hbk); have x3 : w7.cell? ⟨t, 3, none⟩ = some (.slice la l.length lc) := cell_of_heap HM.out.obj rfl; have y3 : w7.frozen? ⟨t, 3, none⟩ = false := frozen_of_heap HM.out.obj; clear ho hg hbk)
    have HS := HM.out.set
    go_ret2
    rw [HGB.out, HGA.out]
    exact ⟨_, rfl, HS.1, HS.2, HM.out.new⟩

set_option maxRecDepth 100000 in
set_option maxHeartbeats 4000000 in
theorem trefget_ok (w : World) (h : RefAt w base t inp a l iv lv) (hl : l.length < 100000) (hi : inp.length ≤ 100000) (hb : base ≤ w.heap.size) :
    Calls Tryz.prog 145 #[.pointer (some ⟨t, 0, none⟩)] w fun e w' => ∃ lv', e = .returned (.tuple #[.int .i64 (tgB inp a), .int .i64 0]) ∧ RefAt w' base t inp (tgA inp a) (l ++ [(1, tgB inp a)]) iv lv' ∧ Fr (TapeS t lv) w w' ∧ NewRow w lv lv' := by
  obtain ⟨la, lc, rfl⟩ := owns_shape h.out
  obtain ⟨ia, ic, rfl⟩ := h.inn.shape
  have H := Lib.hid h
  have c0 : w.cell? ⟨t, 2, none⟩ = some (.slice la l.length lc) := cell_of_heap h.obj rfl
  have c1 : w.cell? ⟨t, 0, none⟩ = some (.slice ia inp.length ic) := cell_of_heap h.obj rfl
  have c2 : w.cell? ⟨t, 1, none⟩ = some (.int .i64 a) := cell_of_heap h.obj rfl
  have hle := h.le
  have hge : binOp .geq 3 (.int .i64 l.length) (.int .i64 100000) = pure (.bool false) := by rw [binOp_geq, decide_eq_false (by omega)]
  by_cases hlt : a < inp.length
  · have hlt' : (a : Int) < inp.length := by omega
    have HGB : Hid (tgB inp a = (inp[a] : Nat)) := Lib.hid (by unfold tgB; rw [List.getElem?_eq_getElem hlt])
    have HGA : Hid (tgA inp a = a + 1) := Lib.hid (by unfold tgA; rw [if_pos hlt])
    obtain ⟨b, o, rfl, cb⟩ := h.inn.at1 (k := a) (u := .int .u8 (inp[a] : Nat)) (by simp [u8s, List.getElem?_eq_getElem hlt])
    have hx : (inp[a] : Nat) < 256 := h.small _ (List.getElem_mem hlt)
    generalize inp[a] = x at *
    clear h
    go_enter Tryz.func145, Tryz.ntmps145
    go_wp2_with fail
    go_quiet (fail)
    go_wp2_with fail
    go_quiet (fail)
    generalize hwd : World.drewN _ _ = wd at *
    have rd : Fr no w wd := by rw [← hwd]; exact ((Fr.refl no w).drewN _).drewN _
    clear hwd c0 c1 c2 cb
    have H1 := Lib.hid (H.out.fr rd)
    have R1 := Lib.hid (rd.to (T := TapeS t (.slice la l.length lc)))
    have d2 : wd.cell? ⟨t, 1, none⟩ = some (.int .i64 a) := cell_of_heap H1.out.obj rfl
    have g2 : wd.frozen? ⟨t, 1, none⟩ = false := frozen_of_heap H1.out.obj
    have hs2 := H1.out.setA (z := (a : Int) + 1) (a' := a + 1) (by omega) (by omega)
    have H2 := Lib.hid hs2.1
    have R2 := Lib.hid (R1.out.trans (hs2.2.mono (T := TapeS t (.slice la l.length lc)) (fun i hi _ => .inl (by simpa using hi))))
    clear hs2 rd
    go_upto_region 7 with (fail)
    generalize wd.setCell ⟨t, 1, none⟩ (.int .i64 ((a : Int) + 1)) = w2 at *
    have c3 : w2.cell? ⟨t, 2, none⟩ = some (.slice la l.length lc) := cell_of_heap H2.out.obj rfl
    have r5 := (Fr.refl no w2).alloc (.cells #[.int .i64 1, .int .i64 x] 179)
    have H5 := Lib.hid (H2.out.fr r5)
    have R5 := Lib.hid (R2.out.trans (r5.to (T := TapeS t (.slice la l.length lc))))
    have HB5 : Hid (base ≤ (w2.alloc (.cells #[.int .i64 1, .int .i64 x] 179)).heap.size) := Lib.hid (Nat.le_trans hb R5.out.size)
    have HR := Lib.hid (reads_two w2 (.int .i64 1) (.int .i64 x) 179)
    clear r5
    go_wp2_with (at_builtin; (refine wpList_append_at rfl (.tmp 43) _ 97 rfl base 179 (.agg #[.int .i64 0, .int .i64 0]) 2 16 Tryz.underlying97 Tryz.infoDeed3 rfl (by decide) _ l.length _ rfl H5.out.out 1 _ HR.out (two_one _ _) (by unfold maxLen; omega) (by omega) HB5.out ?_); intro ga gc w7 ho hg hbk; have HM := Lib.hid (H5.out.app R5.out ho hg hbk); have x3 : w7.cell? ⟨t, 2, none⟩ = some (.slice la l.length lc) := cell_of_heap HM.out.obj rfl; have y3 : w7.frozen? ⟨t, 2, none⟩ = false := frozen_of_heap HM.out.obj; clear ho hg hbk)
    have HS := HM.out.set
    go_ret2
    rw [HGB.out, HGA.out]
    exact ⟨_, rfl, HS.1, HS.2, HM.out.new⟩
  · have hlt' : ¬ (a : Int) < inp.length := by omega
    have HGB : Hid (tgB inp a = -1) := Lib.hid (by unfold tgB; rw [List.getElem?_eq_none (by omega)])
    have HGA : Hid (tgA inp a = a) := Lib.hid (by unfold tgA; rw [if_neg hlt])
    clear h
    go_enter Tryz.func145, Tryz.ntmps145
    go_wp2_with fail
    go_quiet (fail)
    generalize hwd : World.drewN _ _ = w2 at *
    have rd : Fr no w w2 := by rw [← hwd]; exact (Fr.refl no w).drewN _
    clear hwd
    have H2 := Lib.hid (H.out.fr rd)
    have R2 := Lib.hid (rd.to (T := TapeS t (.slice la l.length lc)))
    clear rd c0 c1 c2
    go_upto_region 7 with (fail)
    have c3 : w2.cell? ⟨t, 2, none⟩ = some (.slice la l.length lc) := cell_of_heap H2.out.obj rfl
    have r5 := (Fr.refl no w2).alloc (.cells #[.int .i64 1, .int .i64 (-1)] 179)
    have H5 := Lib.hid (H2.out.fr r5)
    have R5 := Lib.hid (R2.out.trans (r5.to (T := TapeS t (.slice la l.length lc))))
    have HB5 : Hid (base ≤ (w2.alloc (.cells #[.int .i64 1, .int .i64 (-1)] 179)).heap.size) := Lib.hid (Nat.le_trans hb R5.out.size)
    have HR := Lib.hid (reads_two w2 (.int .i64 1) (.int .i64 (-1)) 179)
    clear r5
    go_wp2_with (at_builtin; (refine wpList_append_at rfl (.tmp 43) _ 97 rfl base 179 (.agg #[.int .i64 0, .int .i64 0]) 2 16 Tryz.underlying97 Tryz.infoDeed3 rfl (by decide) _ l.length _ rfl H5.out.out 1 _ HR.out (two_one _ _) (by unfold maxLen; omega) (by omega) HB5.out ?_); intro ga gc w7 ho hg hbk; have HM := Lib.hid (H5.out.app R5.out ho hg hbk); have x3 : w7.cell? ⟨t, 2, none⟩ = some (.slice la l.length lc) := cell_of_heap HM.out.obj rfl; have y3 : w7.frozen? ⟨t, 2, none⟩ = false := frozen_of_heap HM.out.obj; clear ho hg hbk)
    have HS := HM.out.set
    go_ret2
    rw [HGB.out, HGA.out]
    exact ⟨_, rfl, HS.1, HS.2, HM.out.new⟩

set_option maxRecDepth 100000 in
set_option maxHeartbeats 4000000 in
theorem trefput_ok (w : World) (b : Int) (h : RefAt w base t inp a l iv lv) (hl : l.length < 100000) (hb : base ≤ w.heap.size) (hw : -9223372036854775808 ≤ b ∧ b < 9223372036854775808) :
    Calls Tryz.prog 146 #[.pointer (some ⟨t, 0, none⟩), .int .i64 b] w fun e w' => ∃ lv', e = .returned (.int .i64 0) ∧ RefAt w' base t inp a (l ++ [(2, b % 256)]) iv lv' ∧ Fr (TapeS t lv) w w' ∧ NewRow w lv lv' := by
  obtain ⟨la, lc, rfl⟩ := owns_shape h.out
  have c3 : w.cell? ⟨t, 2, none⟩ = some (.slice la l.length lc) := cell_of_heap h.obj rfl
  have hge : binOp .geq 3 (.int .i64 l.length) (.int .i64 100000) = pure (.bool false) := by rw [binOp_geq, decide_eq_false (by omega)]
  have hm1 : -256 < Int.tmod b 256 := Int.lt_tmod_of_pos b (by decide)
  have hm1b : Int.tmod b 256 < 256 := Int.tmod_lt_of_pos b (by decide)
  have hm2 : IntKind.i64.wrap (Int.tmod b 256 + 256) = Int.tmod b 256 + 256 := by rw [IntKind.wrap_i64]; omega
  have hm3 : Int.tmod (Int.tmod b 256 + 256) 256 = b % 256 := by
    rw [Int.tmod_eq_emod_of_nonneg (by omega)]
    have := Int.tmod_add_mul_tdiv b 256
    omega
  have r5 := (Fr.refl no w).alloc (.cells #[.int .i64 2, .int .i64 (b % 256)] 179)
  have H5 := Lib.hid (h.fr r5)
  have R5 := Lib.hid (r5.to (T := TapeS t (.slice la l.length lc)))
  have HR := Lib.hid (reads_two w (.int .i64 2) (.int .i64 (b % 256)) 179)
  have HB5 : Hid (base ≤ (w.alloc (.cells #[.int .i64 2, .int .i64 (b % 256)] 179)).heap.size) := Lib.hid (Nat.le_trans hb R5.out.size)
  clear h r5 hw
  go_enter Tryz.func146, Tryz.ntmps146
  go_wp2_with (at_builtin; (refine wpList_append_at rfl (.tmp 15) _ 97 rfl base 179 (.agg #[.int .i64 0, .int .i64 0]) 2 16 Tryz.underlying97 Tryz.infoDeed3 rfl (by decide) _ l.length _ rfl H5.out.out 1 _ HR.out (two_one _ _) (by unfold maxLen; omega) (by omega) HB5.out ?_); intro ga gc w7 ho hg hbk; have HM := Lib.hid (H5.out.app R5.out ho hg hbk); have x3 : w7.cell? ⟨t, 2, none⟩ = some (.slice la l.length lc) := cell_of_heap HM.out.obj rfl; have y3 : w7.frozen? ⟨t, 2, none⟩ = false := frozen_of_heap HM.out.obj; clear ho hg hbk)
  have HS := HM.out.set
  go_ret
  exact ⟨_, rfl, HS.1, HS.2, HM.out.new⟩
end

end Go.Proofs.YtihnkijeefkefaaGreat

namespace Go.Proofs.YtihnkijeefkefaaGreat
open Go.RowKit

attribute [local go_sem] Program.isFuncB Program.isSliceB

variable {w w' w'' w0 : World}

theorem clone_bytes (w : World) (v : Value) (bs : List Nat) (hb : Reads w v 1 bs.length (u8s bs)) (hl : bs.length ≤ 1000000000) :
    Calls Tryz.prog 55 #[v] w fun e w' => ∃ x, e = .returned x ∧ w'.ownsRow w.heap.size 5 1 x bs.length (u8s bs) ∧ Fr no w w' := by
  rcases hb with ⟨rfl, h0, -⟩ | ⟨ad, cap, rfl, h2, h3, h4, h5⟩
  · have : bs = [] := List.length_eq_zero_iff.1 h0
    subst this
    go_enter Tryz.func55, Tryz.ntmps55
    go_wp2_with fail
    go_ret
    exact ⟨_, rfl, World.ownsRow_nil _ _ _ _, Fr.refl _ _⟩
  · have hb : Reads w (.slice (some ad) bs.length cap) 1 bs.length (u8s bs) := .inr ⟨ad, cap, rfl, h2, h3, h4, h5⟩
    have r0 := (Fr.refl no w).alloc (.cells #[] 5)
    have HO := Lib.hid (owns_new w 5 1)
    have HB := Lib.hid (hb.fr r0 (by simp))
    have R0 := Lib.hid r0
    clear hb r0 h2 h3 h4 h5
    go_enter Tryz.func55, Tryz.ntmps55
    go_wp2_with (at_builtin; (refine wpList_append_at rfl (.tmp 5) _ 22 rfl w.heap.size 5 (.int .u8 0) 1 1 Tryz.underlying22 Tryz.infoU8 rfl (by decide) _ 0 _ rfl HO.out bs.length _ HB.out (u8s_one _) (by unfold maxLen; omega) (by omega) (by simp only [World.size_alloc]; omega) ?_); intro ga gc w6 ho hg hb)
    have R6 := R0.out.trans' ((Fr.refl (fun k => (Value.slice (some ⟨w.heap.size, 0, none⟩) 0 0).ownBlock = some k) _).grown hg (fun k hk => .inl hk)) (fun k hk _ => by simp [Value.ownBlock] at hk; omega)
    have HO6 : Hid (w6.ownsRow w.heap.size 5 1 (.slice ga bs.length gc) bs.length (u8s bs)) := Lib.hid (by simpa using ho)
    clear ho hg hb
    go_ret
    exact ⟨_, rfl, HO6.out, R6⟩
theorem clone_deeds (w : World) (v : Value) (l : List Dd) (hb : Reads w v 2 l.length (deedsC l)) (hl : l.length ≤ 1000000000) :
    Calls Tryz.prog 158 #[v] w fun e w' => ∃ x, e = .returned x ∧ w'.ownsRow w.heap.size 179 2 x l.length (deedsC l) ∧ Fr no w w' := by
  rcases hb with ⟨rfl, h0, -⟩ | ⟨ad, cap, rfl, h2, h3, h4, h5⟩
  · have : l = [] := List.length_eq_zero_iff.1 h0
    subst this
    go_enter Tryz.func158, Tryz.ntmps158
    go_wp2_with fail
    go_ret
    exact ⟨_, rfl, World.ownsRow_nil _ _ _ _, Fr.refl _ _⟩
  · have hb : Reads w (.slice (some ad) l.length cap) 2 l.length (deedsC l) := .inr ⟨ad, cap, rfl, h2, h3, h4, h5⟩
    have r0 := (Fr.refl no w).alloc (.cells #[] 179)
    have HO := Lib.hid (owns_new w 179 2)
    have HB := Lib.hid (hb.fr r0 (by simp))
    have R0 := Lib.hid r0
    clear hb r0 h2 h3 h4 h5
    go_enter Tryz.func158, Tryz.ntmps158
    go_wp2_with (at_builtin; (refine wpList_append_at rfl (.tmp 5) _ 97 rfl w.heap.size 179 (.agg #[.int .i64 0, .int .i64 0]) 2 16 Tryz.underlying97 Tryz.infoDeed3 rfl (by decide) _ 0 _ rfl HO.out l.length _ HB.out (deedsC_one _) (by unfold maxLen; omega) (by omega) (by simp only [World.size_alloc]; omega) ?_); intro ga gc w6 ho hg hb)
    have R6 := R0.out.trans' ((Fr.refl (fun k => (Value.slice (some ⟨w.heap.size, 0, none⟩) 0 0).ownBlock = some k) _).grown hg (fun k hk => .inl hk)) (fun k hk _ => by simp [Value.ownBlock] at hk; omega)
    have HO6 : Hid (w6.ownsRow w.heap.size 179 2 (.slice ga l.length gc) l.length (deedsC l)) := Lib.hid (by simpa using ho)
    clear ho hg hb
    go_ret
    exact ⟨_, rfl, HO6.out, R6⟩
/-- a tape out of bytes -/
theorem new_ok (w : World) (v : Value) (bs : List Nat) (hb : Reads w v 1 bs.length (u8s bs)) (hk : ∀ x ∈ bs, x < 256) (hl : bs.length ≤ 1000000000) :
    Calls Tryz.prog 172 #[v] w fun e w' => ∃ t iv, e = .returned (.pointer (some ⟨t, 0, none⟩)) ∧ TapeAt w' w.heap.size t bs 0 [] iv (.slice none 0 0) ∧ Fr no w w' := by
  have HC := Lib.hid (clone_bytes w v bs hb hl)
  obtain ⟨va, vc, rfl⟩ := hb.shape
  clear hb
  go_enter Tryz.func172, Tryz.ntmps172
  go_wp2_with fail
  refine HC.out.mono ?_
  rintro e w1 ⟨x, rfl, hx, r1⟩
  obtain ⟨xa, xc, rfl⟩ := owns_shape hx
  have r2 := (Fr.refl no w1).alloc (.cells #[.bool true, .slice xa bs.length xc, .int .i64 0, .slice none 0 0] 181)
  have HT : Hid (TapeAt (w1.alloc (.cells #[.bool true, .slice xa bs.length xc, .int .i64 0, .slice none 0 0] 181)) w.heap.size w1.heap.size bs 0 [] (.slice xa bs.length xc) (.slice none 0 0)) :=
    Lib.hid ⟨heap_new w1 _, owns_fr hx r2 (by simp), World.ownsRow_nil _ _ _ _, Nat.zero_le _, r1.size, hk⟩
  have R2 := Lib.hid (r1.trans r2)
  clear hx r1 r2
  go_wp2_with fail
  go_ret
  exact ⟨_, _, rfl, HT.out, R2.out⟩
section
variable {base t a : Nat} {inp : List Nat} {l : List Dd} {iv lv : Value}
theorem deeds_ok (w : World) (h : TapeAt w base t inp a l iv lv) (hl : l.length ≤ 1000000000) :
    Calls Tryz.prog 103 #[.pointer (some ⟨t, 0, none⟩)] w fun e w' => ∃ x, e = .returned x ∧ w'.ownsRow w.heap.size 179 2 x l.length (deedsC l) ∧ Fr no w w' := by
  obtain ⟨la, lc, rfl⟩ := owns_shape h.out
  have NN := Lib.hid (none_at w t true _ _ _ h.obj)
  have CD := Lib.hid (clone_deeds w _ l (owns_reads h.out) hl)
  have c3 : w.cell? ⟨t, 3, none⟩ = some (.slice la l.length lc) := cell_of_heap h.obj rfl
  clear h
  go_enter Tryz.func103, Tryz.ntmps103
  go_wp2_with fail
  refine NN.out.mono ?_
  rintro e w' ⟨rfl, rfl⟩
  go_wp2_with fail
  refine CD.out.mono ?_
  rintro e w1 ⟨x, rfl, hx, r1⟩
  obtain ⟨xa, xc, rfl⟩ := owns_shape hx
  have HX := Lib.hid hx
  have R1 := Lib.hid r1
  clear hx r1
  go_wp2_with fail
  go_ret
  exact ⟨_, rfl, HX.out, R1.out⟩
end

end Go.Proofs.YtihnkijeefkefaaGreat

namespace Go.Proofs.YtihnkijeefkefaaGreat
open Go.RowKit

attribute [local go_sem] Program.isFuncB Program.isSliceB

variable {w w' w'' w0 : World}

/-! ### which deeds and endings may be -/
def mayD (d : Dd) (over : Bool) : Bool := if d.1 = 1 then !(over && decide (0 ≤ d.2)) && decide (-1 ≤ d.2 ∧ d.2 < 256) else if d.1 = 2 then decide (0 ≤ d.2 ∧ d.2 < 256) else false
def mayE (e : Dd) : Bool := if e.1 = 1 then decide (0 ≤ e.2 ∧ e.2 < 256) else if e.1 = 2 then e.2 == 1 || e.2 == 2 else if e.1 = 3 ∨ e.1 = 4 then e.2 == 0 else false
def overD (over : Bool) (d : Dd) : Bool := over || (d.1 == 1 && decide (d.2 < 0))

set_option maxHeartbeats 4000000 in
theorem refdeed_ok (w : World) (k b : Int) : Calls Tryz.prog 176 #[.agg #[.int .i64 k, .int .i64 b]] w fun e w' => e = .returned (.bool (mayD (k, b) false)) ∧ Fr no w w' := by
  have R := Lib.hid ((Fr.refl no w).alloc (.cells #[.int .i64 k, .int .i64 b] 179))
  have HM : Hid (∀ q, mayD (k, b) false = q → Ending.returned (.bool q) = Ending.returned (.bool (mayD (k, b) false))) := Lib.hid (fun q h => by rw [h])
  by_cases h1 : k = 1
  · subst h1
    by_cases h3 : -1 ≤ b
    · by_cases h4 : b ≤ 255
      all_goals
        go_enter Tryz.func176, Tryz.ntmps176
        go_wp2_with fail
        go_ret
        refine ⟨HM.out _ ?_, R.out⟩
        first | (simp [mayD]; done) | (simp [mayD]; omega) | (rw [Bool.eq_iff_iff]; simp [mayD]; omega)
    · go_enter Tryz.func176, Tryz.ntmps176
      go_wp2_with fail
      go_ret
      refine ⟨HM.out _ ?_, R.out⟩
      first | (simp [mayD]; done) | (simp [mayD]; omega) | (rw [Bool.eq_iff_iff]; simp [mayD]; omega)
  by_cases h2 : k = 2
  · subst h2
    by_cases h3 : 0 ≤ b
    · by_cases h4 : b ≤ 255
      all_goals
        go_enter Tryz.func176, Tryz.ntmps176
        go_wp2_with fail
        go_ret
        refine ⟨HM.out _ ?_, R.out⟩
        first | (simp [mayD]; done) | (simp [mayD]; omega) | (rw [Bool.eq_iff_iff]; simp [mayD]; omega)
    · go_enter Tryz.func176, Tryz.ntmps176
      go_wp2_with fail
      go_ret
      refine ⟨HM.out _ ?_, R.out⟩
      first | (simp [mayD]; done) | (simp [mayD]; omega) | (rw [Bool.eq_iff_iff]; simp [mayD]; omega)
  · have e1 : (k == 1) = false := by simpa using h1
    have e2 : (k == 2) = false := by simpa using h2
    have HQ : Hid (mayD (k, b) false = false) := Lib.hid (by unfold mayD; rw [if_neg h1, if_neg h2])
    clear h1 h2
    go_enter Tryz.func176, Tryz.ntmps176
    go_wp2_with fail
    go_ret
    exact ⟨by rw [HQ.out]; rfl, R.out⟩

theorem mayE_else (k c : Int) (h1 : k ≠ 1) (h2 : k ≠ 2) (h3 : k ≠ 3) (h4 : k ≠ 4) : mayE (k, c) = false := by
  unfold mayE; rw [if_neg h1, if_neg h2, if_neg (by rintro (h | h) <;> contradiction)]

set_option maxHeartbeats 4000000 in
theorem ending_ok (w : World) (k c : Int) : Calls Tryz.prog 159 #[.agg #[.int .i64 k, .int .i64 c]] w fun e w' => e = .returned (.bool (mayE (k, c))) ∧ Fr no w w' := by
  have R := Lib.hid ((Fr.refl no w).alloc (.cells #[.int .i64 k, .int .i64 c] 183))
  have HM : Hid (∀ q, mayE (k, c) = q → Ending.returned (.bool q) = Ending.returned (.bool (mayE (k, c)))) := Lib.hid (fun q h => by rw [h])
  by_cases h1 : k = 1
  · subst h1
    by_cases h3 : 0 ≤ c
    all_goals
      go_enter Tryz.func159, Tryz.ntmps159
      go_wp2_with fail
      go_ret
      refine ⟨HM.out _ ?_, R.out⟩
      first | (simp [mayE]; done) | (simp [mayE]; omega) | (rw [Bool.eq_iff_iff]; simp [mayE]; omega)
  by_cases h2 : k = 2
  · subst h2
    by_cases h3 : c = 1
    · subst h3
      go_enter Tryz.func159, Tryz.ntmps159
      go_wp2_with fail
      go_ret
      exact ⟨HM.out _ (by decide), R.out⟩
    · have e3 : (c == 1) = false := by simpa using h3
      have HQ : Hid (mayE (2, c) = (c == 2)) := Lib.hid (by simp [mayE, h3])
      clear h3
      go_enter Tryz.func159, Tryz.ntmps159
      go_wp2_with fail
      go_ret
      exact ⟨HM.out _ HQ.out, R.out⟩
  by_cases h3 : k = 3
  · subst h3
    go_enter Tryz.func159, Tryz.ntmps159
    go_wp2_with fail
    go_ret
    exact ⟨HM.out _ rfl, R.out⟩
  by_cases h4 : k = 4
  · subst h4
    go_enter Tryz.func159, Tryz.ntmps159
    go_wp2_with fail
    go_ret
    exact ⟨HM.out _ rfl, R.out⟩
  · have HQ := Lib.hid (mayE_else k c h1 h2 h3 h4)
    have e1 : (k == 1) = false := by simpa using h1
    have e2 : (k == 2) = false := by simpa using h2
    have e3 : (k == 3) = false := by simpa using h3
    have e4 : (k == 4) = false := by simpa using h4
    clear h1 h2 h3 h4
    go_enter Tryz.func159, Tryz.ntmps159
    go_wp2_with fail
    go_ret
    exact ⟨HM.out _ HQ.out, R.out⟩

set_option maxHeartbeats 4000000 in
theorem refending_ok (w : World) (k c : Int) : Calls Tryz.prog 175 #[.agg #[.int .i64 k, .int .i64 c]] w fun e w' => e = .returned (.bool (mayE (k, c))) ∧ Fr no w w' := by
  have R := Lib.hid ((Fr.refl no w).alloc (.cells #[.int .i64 k, .int .i64 c] 43))
  have HM : Hid (∀ q, mayE (k, c) = q → Ending.returned (.bool q) = Ending.returned (.bool (mayE (k, c)))) := Lib.hid (fun q h => by rw [h])
  by_cases h1 : k = 1
  · subst h1
    by_cases h3 : 0 ≤ c
    all_goals
      go_enter Tryz.func175, Tryz.ntmps175
      go_wp2_with fail
      go_ret
      refine ⟨HM.out _ ?_, R.out⟩
      first | (simp [mayE]; done) | (simp [mayE]; omega) | (rw [Bool.eq_iff_iff]; simp [mayE]; omega)
  by_cases h2 : k = 2
  · subst h2
    by_cases h3 : c = 1
    · subst h3
      go_enter Tryz.func175, Tryz.ntmps175
      go_wp2_with fail
      go_ret
      exact ⟨HM.out _ (by decide), R.out⟩
    · have e3 : (c == 1) = false := by simpa using h3
      have HQ : Hid (mayE (2, c) = (c == 2)) := Lib.hid (by simp [mayE, h3])
      clear h3
      go_enter Tryz.func175, Tryz.ntmps175
      go_wp2_with fail
      go_ret
      exact ⟨HM.out _ HQ.out, R.out⟩
  by_cases h3 : k = 3
  · subst h3
    go_enter Tryz.func175, Tryz.ntmps175
    go_wp2_with fail
    go_ret
    exact ⟨HM.out _ rfl, R.out⟩
  by_cases h4 : k = 4
  · subst h4
    go_enter Tryz.func175, Tryz.ntmps175
    go_wp2_with fail
    go_ret
    exact ⟨HM.out _ rfl, R.out⟩
  · have HQ := Lib.hid (mayE_else k c h1 h2 h3 h4)
    have e1 : (k == 1) = false := by simpa using h1
    have e2 : (k == 2) = false := by simpa using h2
    have e3 : (k == 3) = false := by simpa using h3
    have e4 : (k == 4) = false := by simpa using h4
    clear h1 h2 h3 h4
    go_enter Tryz.func175, Tryz.ntmps175
    go_wp2_with fail
    go_ret
    exact ⟨HM.out _ HQ.out, R.out⟩

/-- which outcomes may be -/
def scanD : List Dd → Bool → Bool
  | [], _ => true
  | d :: l, o => mayD d o && scanD l (overD o d)
def overL (l : List Dd) : Bool := l.foldl overD false
theorem scanD_app (l m : List Dd) : ∀ o, scanD (l ++ m) o = (scanD l o && scanD m (l.foldl overD o)) := by
  induction l with
  | nil => intro o; simp [scanD]
  | cons d l ih => intro o; simp [scanD, ih, Bool.and_assoc]
theorem overL_snoc (l : List Dd) (d : Dd) : overL (l ++ [d]) = overD (overL l) d := by simp [overL]
def chkO (l : List Dd) (e : Dd) : Int := if 100000 < l.length ∨ mayE e = false then 2 else if scanD l false = true then 0 else 2

end Go.Proofs.YtihnkijeefkefaaGreat
