import Derived.Test.YtkgcfllbkjlfcaaO19
namespace Go.Proofs.Ytkgcfllbkjlfcaa
open Go.RowKit

attribute [local go_sem] Program.isFuncB Program.isSliceB

variable {w w' w'' w0 : World}

/-- the registers of a shape's letters among some (the document's way) -/
def stepR (regs : List Int) (t : List UInt8) (st : List Int × Nat) (c : UInt8) : List Int × Nat :=
  if c = 119 ∨ c = 114 then (if 0 < hasN t [c] then st.1 ++ [regs.getD st.2 0] else st.1, st.2 + 1) else st
def regSt (regs : List Int) (t s : List UInt8) : List Int × Nat := s.foldl (stepR regs t) ([], 0)
def regsOf (regs : List Int) (t s : List UInt8) : List Int := (regSt regs t s).1
theorem regSt_snoc (regs : List Int) (t s : List UInt8) (c : UInt8) : regSt regs t (s ++ [c]) = stepR regs t (regSt regs t s) c := by simp [regSt]
theorem stepR_len (regs : List Int) (t : List UInt8) (st : List Int × Nat) (c : UInt8) : (stepR regs t st c).1.length ≤ st.1.length + 1 ∧ (stepR regs t st c).2 ≤ st.2 + 1 := by
  unfold stepR
  split
  · split <;> simp
  · simp
theorem regSt_len (regs : List Int) (t : List UInt8) : ∀ (n : Nat) (s : List UInt8), s.length = n → (regSt regs t s).1.length ≤ n ∧ (regSt regs t s).2 ≤ n
  | 0, s, h => by rw [List.length_eq_zero_iff.1 h]; simp [regSt]
  | n + 1, s, h => by
    have hne : s ≠ [] := by rintro rfl; simp at h
    rw [← List.dropLast_concat_getLast hne, regSt_snoc]
    have ih := regSt_len regs t n s.dropLast (by simp [h])
    have := stepR_len regs t (regSt regs t s.dropLast) (s.getLast hne)
    omega
/-- the two ways tell the same -/
theorem regs_fields (A B C : Int) (s : List UInt8) : regSt [A, B, C] [119, 114] s = ((fieldsOf [A, B, C] s).1, (fieldsOf [A, B, C] s).1.length) ∧
    regSt [A, B, C] [114] s = ((fieldsOf [A, B, C] s).2.1, (fieldsOf [A, B, C] s).1.length) := by
  have key : ∀ (n : Nat) (s : List UInt8), s.length = n → regSt [A, B, C] [119, 114] s = ((fieldsOf [A, B, C] s).1, (fieldsOf [A, B, C] s).1.length) ∧
      regSt [A, B, C] [114] s = ((fieldsOf [A, B, C] s).2.1, (fieldsOf [A, B, C] s).1.length) := by
    intro n
    induction n with
    | zero => intro s h; rw [List.length_eq_zero_iff.1 h]; exact ⟨rfl, rfl⟩
    | succ n ih =>
      intro s h
      have hne : s ≠ [] := by rintro rfl; simp at h
      rw [← List.dropLast_concat_getLast hne, regSt_snoc, regSt_snoc, fieldsOf_snoc]
      obtain ⟨h1, h2⟩ := ih s.dropLast (by simp [h])
      rw [h1, h2]
      generalize s.getLast hne = c
      unfold stepR stepF
      by_cases h119 : c = 119
      · subst h119
        simp [hasN]
      · by_cases h114 : c = 114
        · subst h114
          simp [hasN]
        · simp [h119, h114]
  exact key _ s rfl

theorem extract_one (s : ByteArray) (k : Nat) (h : k < s.size) : (s.extract k (k + 1)).data.toList = [s[k]'h] := by
  rw [ByteArray.data_extract, Array.toList_extract]
  apply List.ext_getElem
  · simp [blen]; omega
  · intro i h1 h2
    have : i = 0 := by simp at h2; omega
    subst this
    simp
    rfl

set_option maxHeartbeats 4000000 in
theorem refregs_ok (w : World) (o A B C N : Int) (args : Value) (t : ByteArray) (ht : t.size ≤ 1000) :
    Calls Try.prog 43 #[insV o A B C N args, .string t] w fun e w' => ∃ v, e = .returned v ∧ Fr no w w' ∧
      w'.ownsRow w.heap.size 3 1 v (regsOf [A, B, C] t.data.toList (sh o)).length (ints (regsOf [A, B, C] t.data.toList (sh o))) := by
  have hok := shape_ok o
  have HSH := Lib.hid (fun w => refshape_all w o)
  unfold sh
  generalize shapeI o = s at *
  have HOK := Lib.hid hok
  have hsz := hok.size
  clear hok
  unfold insV
  have HO := Lib.hid (insObj w o A B C N args)
  have HT := Lib.hid ht
  go_enter Try.func43, Try.ntmps43
  go_wp2_with fail
  refine (HSH.out _).mono ?_
  rintro e w3 ⟨rfl, rfl⟩
  clear HO
  have HW : Hid (Fr no w (w.alloc (.cells #[.int .i64 o, .int .i64 A, .int .i64 B, .int .i64 C, .int .i64 N, args] 30))) := Lib.hid ((Fr.refl no w).alloc _)
  go_wp2_with fail
  have HW2 : Hid (Fr no w ((w.alloc (.cells #[.int .i64 o, .int .i64 A, .int .i64 B, .int .i64 C, .int .i64 N, args] 30)).alloc (.cells #[.int .i64 A, .int .i64 B, .int .i64 C] 3))) := Lib.hid (HW.out.alloc _)
  have HL : Hid (((w.alloc (.cells #[.int .i64 o, .int .i64 A, .int .i64 B, .int .i64 C, .int .i64 N, args] 30)).alloc (.cells #[.int .i64 A, .int .i64 B, .int .i64 C] 3)).heap[w.heap.size + 1]? = some (.cells #[.int .i64 A, .int .i64 B, .int .i64 C] 3 (0, 0))) := Lib.hid (heap_new2' w _ _)
  have HZ : Hid (((w.alloc (.cells #[.int .i64 o, .int .i64 A, .int .i64 B, .int .i64 C, .int .i64 N, args] 30)).alloc (.cells #[.int .i64 A, .int .i64 B, .int .i64 C] 3)).heap.size = w.heap.size + 2) := Lib.hid (by simp)
  generalize ((w.alloc (.cells #[.int .i64 o, .int .i64 A, .int .i64 B, .int .i64 C, .int .i64 N, args] 30)).alloc (.cells #[.int .i64 A, .int .i64 B, .int .i64 C] 3)) = W at *
  clear HW
  go_loopw [7, 8, 9] (fun x y z wr => ∃ k : Nat, z = .int .i64 k ∧ y = .int .i64 ((regSt [A, B, C] t.data.toList (s.data.toList.take k)).2 : Nat) ∧ k ≤ s.size ∧
    Hid (wr.ownsRow W.heap.size 3 1 x (regSt [A, B, C] t.data.toList (s.data.toList.take k)).1.length (ints (regSt [A, B, C] t.data.toList (s.data.toList.take k)).1)) ∧ Hid (Fr no W wr)) (fun _ _ z _ => (s.size - intOf z).toNat)
  case atStart => exact ⟨0, rfl, rfl, by omega, Lib.hid (World.ownsRow_nil _ _ _ _), Lib.hid (Fr.refl _ _)⟩
  case round =>
    obtain ⟨k, rfl, rfl, hk, hown, hfr⟩ := hrel
    obtain ⟨xa, xc, rfl⟩ := owns_shape hown.out
    have hlen := regSt_len [A, B, C] t.data.toList k (s.data.toList.take k) (blen_take s k hk)
    by_cases hks : k < s.size
    · have hks' : (k : Int) < s.size := by omega
      have hsnoc : regSt [A, B, C] t.data.toList (s.data.toList.take (k + 1)) = stepR [A, B, C] t.data.toList (regSt [A, B, C] t.data.toList (s.data.toList.take k)) (s[k]'hks) := by
        rw [btake_succ s k hks, regSt_snoc]
      generalize hst : regSt [A, B, C] t.data.toList (s.data.toList.take k) = st at *
      obtain ⟨la, at'⟩ := st
      dsimp only at hlen
      have HSN := Lib.hid hsnoc
      have ck : wr.cell? ⟨w.heap.size + 1, at', none⟩ = some (.int .i64 ([A, B, C].getD at' 0)) := by
        refine hfr.out.cell (cell_of_heap HL.out ?_) (by simp)
        obtain h | h | h : at' = 0 ∨ at' = 1 ∨ at' = 2 := by omega
        all_goals (rw [h]; rfl)
      have CK := Lib.hid ck
      have hl3 : at' < 3 := by omega
      have hl3' : (at' : Int) < 3 := by omega
      have hb2 : la.length ≤ 3 := by omega
      generalize hn : [A, B, C].getD at' 0 = n at *
      have HN := Lib.hid hn
      have hx := extract_one s k hks
      have HX := Lib.hid hx
      have HCI : Hid (∀ d : UInt8, ((s[k]'hks).toNat : Int) = d.toNat → s[k]'hks = d) := Lib.hid (fun d e => UInt8.toNat_inj.1 (by omega))
      clear hsnoc hst hn hx ck hlen
      by_cases hreg : s[k]'hks = 119 ∨ s[k]'hks = 114
      · have HH := Lib.hid (fun w => has_ok w t (s.extract k (k + 1)) HT.out (by rw [← blen, HX.out]; simp))
        have HH2 := Lib.hid hreg
        have hcc : Hid (hasN t.data.toList (s.extract k (k + 1)).data.toList = hasN t.data.toList [s[k]'hks]) := Lib.hid (by rw [HX.out])
        generalize hasN t.data.toList (s.extract k (k + 1)).data.toList = hn at *
        by_cases hpos : 0 < hn
        · have hpos' : (0 : Int) < hn := by omega
          have HSN2 : Hid (regSt [A, B, C] t.data.toList (s.data.toList.take (k + 1)) = (la ++ [n], at' + 1)) := Lib.hid (by
            rw [HSN.out]; unfold stepR; rw [if_pos HH2.out, if_pos (by rw [← hcc.out]; exact hpos)]; simp only [HN.out])
          have hcase : (((s[k]'hks).toNat : Int) != 119) = false ∨ ((((s[k]'hks).toNat : Int) != 119) = true ∧ (((s[k]'hks).toNat : Int) != 114) = false) := by
            rcases hreg with h | h
            · left; rw [h]; rfl
            · right; rw [h]; exact ⟨rfl, rfl⟩
          clear hreg
          obtain h1 | ⟨h1, h2⟩ := hcase
          all_goals
            go_wp2_with fail
            refine (HH.out _).mono ?_
            rintro e w4 ⟨rfl, q, rfl⟩
            have OD := Lib.hid (((owns_fr hown.out ((Fr.refl no wr).drewN q) (by simp)).alloc (.cells #[.int .i64 n] 3)))
            have R5 := Lib.hid ((hfr.out.drewN q).alloc (.cells #[.int .i64 n] 3))
            have ck := ((Fr.refl no wr).drewN q).cell CK.out (by simp)
            go_wp2_with (at_builtin; (refine wpList_append_at rfl (.tmp 44) _ 28 rfl W.heap.size 3 (.int .i64 0) 1 8 Try.underlying28 Try.infoInt rfl (by decide) _ la.length _ rfl OD.out 1 [.int .i64 n] (reads_one _ _ _) int_one (by unfold maxLen; omega) (by omega) (by have := R5.out.size; exact this) ?_); intro ga gc w6 ho hg hb)
            have HO6 : Hid (w6.ownsRow W.heap.size 3 1 (.slice ga (la.length + 1) gc) (la ++ [n]).length (ints (la ++ [n]))) := Lib.hid (by simpa [ints] using ho)
            have R6 := Lib.hid (R5.out.trans' ((Fr.refl (fun k => (Value.slice xa la.length xc).ownBlock = some k) _).grown hg (fun k hk => .inl hk)) (fun k hk _ => (hown.out.lt k hk).1))
            clear ho hg hb ck
            go_roundw
            case rel => exact ⟨k + 1, by go_num, by rw [HSN2.out]; go_num, by omega, by rw [HSN2.out]; exact HO6, R6⟩
            case measure => first | (simp [intOf]; done) | (simp [intOf]; omega)
        · have hpos' : ¬ (0 : Int) < hn := by omega
          have HSN2 : Hid (regSt [A, B, C] t.data.toList (s.data.toList.take (k + 1)) = (la, at' + 1)) := Lib.hid (by
            rw [HSN.out]; unfold stepR; rw [if_pos HH2.out, if_neg (by rw [← hcc.out]; exact hpos)])
          have hcase : (((s[k]'hks).toNat : Int) != 119) = false ∨ ((((s[k]'hks).toNat : Int) != 119) = true ∧ (((s[k]'hks).toNat : Int) != 114) = false) := by
            rcases hreg with h | h
            · left; rw [h]; rfl
            · right; rw [h]; exact ⟨rfl, rfl⟩
          clear hreg
          obtain h1 | ⟨h1, h2⟩ := hcase
          all_goals
            go_wp2_with fail
            refine (HH.out _).mono ?_
            rintro e w4 ⟨rfl, q, rfl⟩
            have OD := Lib.hid (((owns_fr hown.out ((Fr.refl no wr).drewN q) (by simp))))
            have R5 := Lib.hid ((hfr.out.drewN q))
            go_wp2_with fail
            go_roundw
            case rel => exact ⟨k + 1, by go_num, by rw [HSN2.out]; go_num, by omega, by rw [HSN2.out]; exact OD, R5⟩
            case measure => first | (simp [intOf]; done) | (simp [intOf]; omega)
      · have h1 : ¬ s[k]'hks = 119 := fun e => hreg (.inl e)
        have h2 : ¬ s[k]'hks = 114 := fun e => hreg (.inr e)
        have HSN2 : Hid (regSt [A, B, C] t.data.toList (s.data.toList.take (k + 1)) = (la, at')) := Lib.hid (by
          rw [HSN.out]; unfold stepR; rw [if_neg (by rintro (e | e); exact h1 e; exact h2 e)])
        have e1 : (((s[k]'hks).toNat : Int) != 119) = true := by
          rw [bne_iff_ne]; exact fun e => h1 (HCI.out 119 e)
        have e2 : (((s[k]'hks).toNat : Int) != 114) = true := by
          rw [bne_iff_ne]; exact fun e => h2 (HCI.out 114 e)
        clear h1 h2 hreg
        go_wp2_with fail
        go_roundw
        case rel => exact ⟨k + 1, by go_num, by rw [HSN2.out], by omega, by rw [HSN2.out]; exact hown, hfr⟩
        case measure => first | (simp [intOf]; done) | (simp [intOf]; omega)
    · obtain rfl : k = s.size := by omega
      have hall : s.data.toList.take s.size = s.data.toList := by rw [← blen, List.take_length]
      have HALL := Lib.hid hall
      have FIN : Hid (wr.ownsRow w.heap.size 3 1 (.slice xa (regSt [A, B, C] t.data.toList (s.data.toList.take s.size)).1.length xc) (regsOf [A, B, C] t.data.toList s.data.toList).length (ints (regsOf [A, B, C] t.data.toList s.data.toList))) := by
        refine Lib.hid ?_
        have := owns_base hown.out (base' := w.heap.size) (fun k hk => by have := (hown.out.lt k hk).1; have := HW2.out.size; omega)
        unfold regsOf
        rw [hall] at this ⊢
        exact this
      clear hall hlen
      go_wp2_with fail
      go_ret
      exact ⟨_, rfl, HW2.out.trans hfr.out, FIN.out⟩

end Go.Proofs.Ytkgcfllbkjlfcaa
