import Derived.Test.YtdklbmggljakkaaD0
import Derived.Laws.Bits128
set_option linter.unusedSimpArgs false
set_option linter.unusedVariables false
set_option linter.unusedSectionVars false
set_option linter.unnecessarySimpa false
namespace Go.Proofs.Ytdklbmggljakkaa
open Go.RowKit

attribute [local go_sem] Program.isFuncB Program.isSliceB

variable {w w' w'' w0 : World}

/-! ### deeds -/
abbrev Dd := Int × Int
def deedsC (l : List Dd) : List Value := l.flatMap fun d => [.int .i64 d.1, .int .i64 d.2]
theorem deedsC_len : ∀ (l : List Dd), (deedsC l).length = l.length * 2
  | [] => rfl
  | d :: l => by
    have := deedsC_len l
    simp only [deedsC, List.flatMap_cons, List.length_append, List.length_cons, List.length_nil] at *
    omega
theorem deedsC_snoc (l : List Dd) (k b : Int) : deedsC (l ++ [(k, b)]) = deedsC l ++ [.int .i64 k, .int .i64 b] := by simp [deedsC]
theorem deedsC_one (l : List Dd) : ∀ u ∈ deedsC l, u.oneCell' = true := by
  intro u hu
  simp only [deedsC, List.mem_flatMap, List.mem_cons, List.not_mem_nil, or_false] at hu
  obtain ⟨d, _, rfl | rfl⟩ := hu <;> rfl
theorem deedsC_at : ∀ (l : List Dd) (k : Nat) (hk : k < l.length), ((deedsC l).drop (k * 2)).take 2 = [.int .i64 l[k].1, .int .i64 l[k].2]
  | [], k, hk => by simp at hk
  | d :: l, 0, _ => by simp [deedsC]
  | d :: l, k + 1, hk => by
    have := deedsC_at l k (by simpa using hk)
    rw [show (k + 1) * 2 = 2 + k * 2 from by omega, ← List.drop_drop]
    exact this
theorem deedsC_take (l : List Dd) (k : Nat) : (deedsC l).take (k * 2) = deedsC (l.take k) := by
  induction l generalizing k with
  | nil => simp [deedsC]
  | cons d l ih =>
    match k with
    | 0 => simp [deedsC]
    | k + 1 =>
      have := ih k
      rw [show (k + 1) * 2 = k * 2 + 2 from by omega]
      simp only [deedsC, List.flatMap_cons, List.take_succ_cons, List.cons_append, List.nil_append] at *
      rw [this]
def deedRow (w : World) (v : Value) (l : List Dd) : Prop := Reads w v 2 l.length (deedsC l)

theorem Try.infoDeed3 : (Try.prog.info? 59).map (fun i => (i.zero, i.size, i.bytes)) = some (some (.agg #[.int .i64 0, .int .i64 0]), 2, 16) := by kernel_rfl
theorem Try.infoDeed : (Try.prog.info? 59).map (·.size) = some 2 := by kernel_rfl
theorem reads_two (w : World) (a0 a1 : Value) (e : TypeId) : Reads (w.alloc (.cells #[a0, a1] e)) (.slice (some ⟨w.heap.size, 0, none⟩) 1 1) 2 1 [a0, a1] := by
  refine .inr ⟨_, 1, rfl, Nat.le_refl _, by unfold maxLen; omega, rfl, fun j u hu => ?_⟩
  rw [Addr.add_lit]
  refine cell_of_heap (heap_new w _) ?_
  rw [Nat.zero_add]
  simpa using hu
theorem two_one (a b : Int) : ∀ v ∈ [Value.int .i64 a, .int .i64 b], v.oneCell' = true := by
  intro v hv
  simp only [List.mem_cons, List.not_mem_nil, or_false] at hv
  rcases hv with rfl | rfl <;> rfl
theorem i64_and255 (n : Int) : bits .and .i64 n 255 = n % 256 := by
  have h255 : (BitVec.ofInt 64 255).toNat = 2 ^ 8 - 1 := by decide
  have key : (BitVec.ofInt 64 n &&& BitVec.ofInt 64 255).toNat = (n % ((2 ^ 64 : Nat) : Int)).toNat % 2 ^ 8 := by
    rw [BitVec.toNat_and, BitVec.toNat_ofInt, h255, Nat.and_two_pow_sub_one_eq_mod]
  show IntKind.i64.wrap ((BitVec.ofInt 64 n &&& BitVec.ofInt 64 255).toNat : Nat) = n % 256
  rw [key, IntKind.wrap_i64]
  omega

/-! ### tapes -/
structure TapeAt (w : World) (base t : Nat) (inp : List Nat) (a : Nat) (l : List Dd) (iv lv : Value) : Prop where
  obj : w.heap[t]? = some (.cells #[.bool true, iv, .int .i64 a, lv] 45 (0, 0))
  inn : w.ownsRow base 5 1 iv inp.length (u8s inp)
  out : w.ownsRow base 59 2 lv l.length (deedsC l)
  le : a ≤ inp.length
  bt : base ≤ t
  small : ∀ x ∈ inp, x < 256
structure RefAt (w : World) (base t : Nat) (inp : List Nat) (a : Nat) (l : List Dd) (iv lv : Value) : Prop where
  obj : w.heap[t]? = some (.cells #[iv, .int .i64 a, lv] 31 (0, 0))
  inn : Reads w iv 1 inp.length (u8s inp)
  small : ∀ x ∈ inp, x < 256
  old : ∀ k, iv.ownBlock = some k → k < base
  out : w.ownsRow base 59 2 lv l.length (deedsC l)
  le : a ≤ inp.length
  bt : base ≤ t
section
variable {base t a : Nat} {inp : List Nat} {l : List Dd} {iv lv : Value}
theorem TapeAt.frx {S : Nat → Prop} (h : TapeAt w base t inp a l iv lv) (r : Fr S w w') (h1 : ¬ S t) (h2 : ∀ k, iv.ownBlock = some k → ¬ S k) (h3 : ∀ k, lv.ownBlock = some k → ¬ S k) : TapeAt w' base t inp a l iv lv :=
  ⟨r.heap h.obj h1, owns_fr h.inn r h2, owns_fr h.out r h3, h.le, h.bt, h.small⟩
theorem TapeAt.fr (h : TapeAt w base t inp a l iv lv) (r : Fr no w w') : TapeAt w' base t inp a l iv lv := h.frx r (by simp) (by simp) (by simp)
theorem RefAt.frx {S : Nat → Prop} (h : RefAt w base t inp a l iv lv) (r : Fr S w w') (h1 : ¬ S t) (h2 : ∀ k, iv.ownBlock = some k → ¬ S k) (h3 : ∀ k, lv.ownBlock = some k → ¬ S k) : RefAt w' base t inp a l iv lv :=
  ⟨r.heap h.obj h1, h.inn.fr r h2, h.small, h.old, owns_fr h.out r h3, h.le, h.bt⟩
theorem RefAt.fr (h : RefAt w base t inp a l iv lv) (r : Fr no w w') : RefAt w' base t inp a l iv lv := h.frx r (by simp) (by simp) (by simp)
end

theorem none_nil (w : World) : Calls Try.prog 41 #[.pointer none] w fun e w' => e = .returned (.bool true) ∧ w = w' := by
  go_enter Try.func41, Try.ntmps41
  go_wp2_with fail
  go_ret
  exact ⟨rfl, rfl⟩
theorem none_at (w : World) (t : Nat) (q : Bool) (x y z : Value) (h : w.heap[t]? = some (.cells #[.bool q, x, y, z] 45 (0, 0))) :
    Calls Try.prog 41 #[.pointer (some ⟨t, 0, none⟩)] w fun e w' => e = .returned (.bool (!q)) ∧ w = w' := by
  have c0 := cell_of_heap (o := 0) h rfl
  clear h
  go_enter Try.func41, Try.ntmps41
  go_wp2_with fail
  go_ret
  exact ⟨rfl, rfl⟩

section
variable {base t a : Nat} {inp : List Nat} {l : List Dd} {iv lv : Value}
set_option maxRecDepth 100000 in
theorem asked_ok (w : World) (h : TapeAt w base t inp a l iv lv) (hl : l.length < 100000) :
    Calls Try.prog 40 #[.pointer (some ⟨t, 0, none⟩)] w fun e w' => e = .returned (.int .i64 0) ∧ w = w' := by
  obtain ⟨la, lc, rfl⟩ := owns_shape h.out
  have NN := Lib.hid (none_at w t true _ _ _ h.obj)
  have c3 : w.cell? ⟨t, 3, none⟩ = some (.slice la l.length lc) := cell_of_heap h.obj rfl
  have hge : binOp .geq 3 (.int .i64 l.length) (.int .i64 100000) = pure (.bool false) := by rw [binOp_geq, decide_eq_false (by omega)]
  clear h hl
  go_enter Try.func40, Try.ntmps40
  go_wp2_with fail
  refine NN.out.mono ?_
  rintro e w' ⟨rfl, rfl⟩
  go_wp2_with fail
  go_ret
  exact ⟨rfl, rfl⟩
theorem left_ok (w : World) (h : TapeAt w base t inp a l iv lv) (hi : inp.length ≤ 100000) :
    Calls Try.prog 20 #[.pointer (some ⟨t, 0, none⟩)] w fun e w' => e = .returned (.int .i64 ((inp.length : Int) - a)) ∧ Fr no w w' := by
  obtain ⟨ia, ic, rfl⟩ := owns_shape h.inn
  have NN := Lib.hid (none_at w t true _ _ _ h.obj)
  have c1 : w.cell? ⟨t, 1, none⟩ = some (.slice ia inp.length ic) := cell_of_heap h.obj rfl
  have c2 : w.cell? ⟨t, 2, none⟩ = some (.int .i64 a) := cell_of_heap h.obj rfl
  have hle := h.le
  have hw : IntKind.i64.wrap ((inp.length : Int) - (a : Int)) = (inp.length : Int) - (a : Int) := by rw [IntKind.wrap_i64]; omega
  clear h
  go_enter Try.func20, Try.ntmps20
  go_wp2_with fail
  refine NN.out.mono ?_
  rintro e w' ⟨rfl, rfl⟩
  go_wp2_with fail
  go_quiet (fail)
  go_wp2_with fail
  go_ret
  exact ⟨rfl, (Fr.refl _ _).drewN _⟩

/-- what a call on a tape turns -/
def TapeS (t : Nat) (lv : Value) : Nat → Prop := fun k => k = t ∨ lv.ownBlock = some k
def NewRow (w : World) (lv lv' : Value) : Prop := ∀ k, lv'.ownBlock = some k → lv.ownBlock = some k ∨ w.heap.size ≤ k

/-- behind the append -/
structure TapeMid (w w' : World) (base t : Nat) (inp : List Nat) (a : Nat) (l' : List Dd) (iv lv lv' : Value) : Prop where
  obj : w'.heap[t]? = some (.cells #[.bool true, iv, .int .i64 a, lv] 45 (0, 0))
  inn : w'.ownsRow base 5 1 iv inp.length (u8s inp)
  out : w'.ownsRow base 59 2 lv' l'.length (deedsC l')
  le : a ≤ inp.length
  bt : base ≤ t
  small : ∀ x ∈ inp, x < 256
  fr : Fr (TapeS t lv) w w'
  new : NewRow w lv lv'
theorem TapeAt.app {w1 w2 : World} {lv' : Value} {k b : Int} (h : TapeAt w1 base t inp a l iv lv) (r : Fr no w w1) (ho : w2.ownsRow base 59 2 lv' (l.length + 1) (deedsC l ++ [.int .i64 k, .int .i64 b])) (hg : w1.grownBy w2 lv.ownBlock)
    (hb : ∀ i, lv'.ownBlock = some i → lv.ownBlock = some i ∨ i = w1.heap.size) : TapeMid w w2 base t inp a (l ++ [(k, b)]) iv lv lv' := by
  have q : Fr (fun k => lv.ownBlock = some k) w1 w2 := (Fr.refl _ w1).grown hg (fun k hk => .inl hk)
  refine ⟨q.heap h.obj (row_block_ne h.out h.obj (by decide)), owns_fr h.inn q (fun i hi e => rows_ne h.out h.inn (by decide) i e hi), by rw [deedsC_snoc, List.length_append]; exact ho, h.le, h.bt, h.small, ?_, fun i hi => ?_⟩
  · exact ((r.to : Fr (TapeS t lv) w w1)).trans (q.mono (fun i hi _ => .inr hi))
  · rcases hb i hi with h1 | h1
    · exact .inl h1
    · exact .inr (by rw [h1]; exact r.size)
theorem TapeMid.set {w2 : World} {l' : List Dd} {lv' : Value} (h : TapeMid w w2 base t inp a l' iv lv lv') :
    TapeAt (w2.setCell ⟨t, 3, none⟩ lv') base t inp a l' iv lv' ∧ Fr (TapeS t lv) w (w2.setCell ⟨t, 3, none⟩ lv') := by
  have q := (Fr.refl (only [t]) w2).setCell ⟨t, 3, none⟩ lv' (.inl (by simp))
  refine ⟨⟨heap_setCell (o := 3) h.obj, owns_fr h.inn q (fun i hi e => ?_), owns_fr h.out q (fun i hi e => ?_), h.le, h.bt, h.small⟩, h.fr.setCell _ _ (.inl (.inl rfl))⟩
  · simp at e; subst e; exact row_block_ne h.inn h.obj (by decide) hi
  · simp at e; subst e; exact row_block_ne h.out h.obj (by decide) hi

set_option maxHeartbeats 4000000 in
theorem put_ok (w : World) (b : Int) (h : TapeAt w base t inp a l iv lv) (hl : l.length < 100000) (hb : base ≤ w.heap.size) :
    Calls Try.prog 14 #[.pointer (some ⟨t, 0, none⟩), .int .i64 b] w fun e w' => ∃ lv', e = .returned (.int .i64 0) ∧ TapeAt w' base t inp a (l ++ [(2, b % 256)]) iv lv' ∧ Fr (TapeS t lv) w w' ∧ NewRow w lv lv' := by
  obtain ⟨la, lc, rfl⟩ := owns_shape h.out
  have AS := Lib.hid (asked_ok w h hl)
  have c3 : w.cell? ⟨t, 3, none⟩ = some (.slice la l.length lc) := cell_of_heap h.obj rfl
  have H := Lib.hid h
  have hand := i64_and255 b
  have r5 := (Fr.refl no w).alloc (.cells #[.int .i64 2, .int .i64 (b % 256)] 59)
  have H5 := Lib.hid (h.fr r5)
  have R5 := Lib.hid r5
  have HR := Lib.hid (reads_two w (.int .i64 2) (.int .i64 (b % 256)) 59)
  clear h r5
  go_enter Try.func14, Try.ntmps14
  go_wp2_with fail
  refine AS.out.mono ?_
  rintro e w' ⟨rfl, rfl⟩
  go_wp2_with (at_builtin; (refine wpList_append_at rfl (.tmp 15) _ 29 rfl base 59 (.agg #[.int .i64 0, .int .i64 0]) 2 16 Try.underlying29 Try.infoDeed3 rfl (by decide) _ l.length _ rfl H5.out.out 1 _ HR.out (two_one _ _) (by unfold maxLen; omega) (by omega) (by simp; omega) ?_); intro ga gc w7 ho hg hbk; have HM := Lib.hid (H5.out.app R5.out ho hg hbk); have x3 : w7.cell? ⟨t, 3, none⟩ = some (.slice la l.length lc) := cell_of_heap HM.out.obj rfl; have y3 : w7.frozen? ⟨t, 3, none⟩ = false := frozen_of_heap HM.out.obj; clear ho hg hbk c3)
  have HS := HM.out.set
  go_ret
  exact ⟨_, rfl, HS.1, HS.2, HM.out.new⟩
end

end Go.Proofs.Ytdklbmggljakkaa
