/- twinshaftref08's reader: number, block. -/
import Derived.Test.YtdngflhfhmnipaaGreatN6
import Derived.Test.YtdngflhfhmnipaaGreatM15
set_option linter.unusedSimpArgs false
set_option linter.unusedVariables false
set_option linter.unusedSectionVars false
set_option linter.unnecessarySimpa false
namespace Go.Proofs.YtdngflhfhmnipaaGreat
open Go.RowKit

attribute [local go_sem] Program.isFuncB Program.isSliceB

variable {w w' w'' w0 : World}

set_option maxRecDepth 100000 in
set_option maxHeartbeats 2000000 in
theorem refnum_ok (w : World) (pb sz : Nat) (bv : Value) (bs : List Nat) (s : Pl) (hp : RlAt w pb bv bs s) (hsz : sz = 1 ∨ sz = 2) (hlt : ∀ b ∈ bs, b < 256) (hbl : bs.length ≤ 100000) :
    Calls Tryz.prog 44 #[.pointer (some ⟨pb, 0, none⟩), .int .i64 sz] w fun e w' => e = .returned (.int .i64 (unle (takeP bs sz s).1 : Nat)) ∧ RlAt w' pb bv bs (takeP bs sz s).2 ∧ Fr (only [pb]) w w' := by
  have HT := Lib.hid (reftake_ok w pb bv bs s sz hp (by omega) hbl)
  have HL := takeP_len bs sz s hp.le
  have TL := Lib.hid (takeP_lt hlt sz s)
  have hl2 : (takeP bs sz s).1.length ≤ 2 := by omega
  clear hp hsz hlt HL
  generalize takeP bs sz s = tk at *
  obtain ⟨l, s'⟩ := tk
  dsimp only at TL HT hl2 ⊢
  go_enter Tryz.func44, Tryz.ntmps44
  go_wp2_with fail
  refine HT.out.mono ?_
  rintro e w2 ⟨a, c, rfl, hr, -, hp, r⟩
  have HR := Lib.hid hr
  have HP := Lib.hid hp
  have R := Lib.hid r
  clear hr hp r HT
  go_wp2_with fail
  go_loopw [6, 7] (fun x y wr => ∃ k : Nat, k ≤ l.length ∧ y = .int .i64 ((k : Int) - 1) ∧ x = .int .i64 (unle (l.drop k) : Nat) ∧ wr = w2) (fun _ y _ => (intOf y + 1).toNat)
  case atStart => exact ⟨l.length, Nat.le_refl _, rfl, by simp [unle], rfl⟩
  case round =>
    obtain ⟨k, hk, rfl, rfl, rfl⟩ := hrel
    cases k with
    | succ k =>
      have hkl : k < l.length := by omega
      obtain ⟨b, o, rfl, hc⟩ := reads_u8 HR.out hkl
      have h256 := TL.out l[k] (List.getElem_mem hkl)
      have hu : unle (l.drop k) = l[k] + 256 * unle (l.drop (k + 1)) := by rw [List.drop_eq_getElem_cons hkl]; rfl
      have hu2 : unle (l.drop k) < 65536 := unle_two _ (fun b hb => TL.out b (List.mem_of_mem_drop hb)) (by simp; omega)
      have HU : Hid (((unle (l.drop k) : Nat) : Int) = 256 * ((unle (l.drop (k + 1)) : Nat) : Int) + ((l[k] : Nat) : Int)) := Lib.hid (by omega)
      have hx2 : unle (l.drop (k + 1)) < 65536 := by omega
      have hsum : 256 * unle (l.drop (k + 1)) + l[k] < 65536 := by omega
      clear hu hu2
      generalize unle (l.drop (k + 1)) = x2 at *
      generalize l[k] = x1 at *
      have e1 : IntKind.i64.wrap ((k : Int) + 1 - 1) = k := by rw [IntKind.wrap_i64] <;> omega
      have e2 : ((k + 1 : Nat) : Int) - 1 = k := by omega
      have e3 : (0 : Int) ≤ k := by omega
      rw [e2]
      go_wp2_with fail
      go_roundw
      case rel => exact ⟨k, by omega, by go_num, by rw [HU.out], by trivial⟩
      case measure => first | (simp [intOf]; done) | (simp [intOf]; omega)
    | zero =>
      have e0 : ¬ (0 : Int) ≤ ((0 : Nat) : Int) - 1 := by omega
      go_wp2_with fail
      go_ret
      exact ⟨by simp, HP.out, R.out⟩

set_option maxRecDepth 100000 in
set_option maxHeartbeats 4000000 in
theorem refblock_ok (w : World) (pb most : Nat) (bv : Value) (bs : List Nat) (s : Pl) (hp : RlAt w pb bv bs s) (hlt : ∀ b ∈ bs, b < 256) (hbl : bs.length ≤ 100000) (hbt : ∀ k, bv.ownBlock = some k → k < w.heap.size) :
    Calls Tryz.prog 43 #[.pointer (some ⟨pb, 0, none⟩), .int .i64 most] w fun e w' => ∃ v, e = .returned v ∧ w'.ownsRow w.heap.size 5 1 v (blockP bs most s).1.length (u8s (blockP bs most s).1) ∧ RlAt w' pb bv bs (blockP bs most s).2 ∧ Fr (only [pb]) w w' := by
  obtain ⟨-, c1, -, -⟩ := cells4 hp.obj
  have hpb := (Array.getElem?_eq_some_iff.1 hp.obj).1
  have HNM := Lib.hid (refnum_ok w pb 2 bv bs s hp (.inr rfl) hlt hbl)
  have TC := takeP_cases bs 2 s hp.le
  have hn := unle_two (takeP bs 2 s).1 (takeP_lt hlt 2 s) (by have := takeP_len bs 2 s hp.le; omega)
  have BQ0 : Hid (blockP bs most s = takeP bs (unle (takeP bs 2 s).1) (if (takeP bs 2 s).2.er = 0 ∧ most < unle (takeP bs 2 s).1 then failP (takeP bs 2 s).2 3 s.at_ else (takeP bs 2 s).2)) := Lib.hid rfl
  have HER : Hid (most < unle (takeP bs 2 s).1 → (takeP bs 2 s).2.er = 0) := Lib.hid (fun h => by
    rcases TC with ⟨h1, -⟩ | ⟨-, h1, -⟩
    · rw [h1] at h; simp [unle] at h
    · exact h1)
  have HBT := Lib.hid hbt
  have HLT := Lib.hid hlt
  clear TC hp hlt hbt
  obtain ⟨sa, ser, sfa⟩ := s
  dsimp only at c1
  generalize takeP bs 2 ⟨sa, ser, sfa⟩ = tk at *
  obtain ⟨l, s2⟩ := tk
  dsimp only at HNM hn BQ0 HER
  generalize unle l = n at *
  generalize blockP bs most ⟨sa, ser, sfa⟩ = bp at *
  go_enter Tryz.func43, Tryz.ntmps43
  go_wp2_with fail
  refine HNM.out.mono ?_
  rintro e w2 ⟨rfl, hp, r⟩
  have HP := Lib.hid hp
  have R := Lib.hid r
  clear hp r HNM
  by_cases hm : most < n
  · have hm' : (most : Int) < n := by omega
    have BQ : Hid (bp = takeP bs n (failP s2 3 sa)) := Lib.hid (by rw [BQ0.out, if_pos ⟨HER.out hm, hm⟩])
    have FA := Lib.hid (reffail_ok w2 pb bv bs s2 3 sa HP.out)
    clear BQ0 HER
    go_wp2_with fail
    refine FA.out.mono ?_
    rintro e w3 ⟨rfl, hp, r⟩
    have HP3 := Lib.hid hp
    have R3' := Lib.hid (R.out.trans r)
    clear hp r FA HP
    have r3 := (Fr.refl no w3).alloc (.cells #[] 5)
    have HO := Lib.hid (owns_new w3 5 1)
    have TK := Lib.hid (reftake_ok _ pb bv bs (failP s2 3 sa) n (HP3.out.fn r3) (by omega) hbl)
    have R3 := Lib.hid (R3'.out.trans (r3.to (T := only [pb])))
    have SZ3 : Hid (w.heap.size ≤ w3.heap.size) := Lib.hid R3'.out.size
    clear r3
    go_wp2_with fail
    refine TK.out.mono ?_
    rintro e w5 ⟨ta, tc, rfl, ht, ho2, hp5, r5⟩
    have HT5 := Lib.hid ht
    have HP5 := Lib.hid hp5
    have R5 := Lib.hid (R3.out.trans r5)
    have HO5 := Lib.hid (owns_fr HO.out r5 (fun k hk e => by simp [Value.ownBlock] at hk; simp at e; have := SZ3.out; omega))
    have SZ5 : Hid (w3.heap.size ≤ w5.heap.size) := Lib.hid (by have := r5.size; simp only [World.size_alloc] at this; omega)
    have HOB := Lib.hid ho2
    clear ht hp5 r5 ho2 TK HO R3
    have hbx : (takeP bs n (failP s2 3 sa)).1.length ≤ bs.length := takeP_few bs n (failP s2 3 sa)
    generalize takeP bs n (failP s2 3 sa) = tk2 at *
    obtain ⟨l2, s5⟩ := tk2
    dsimp only at HT5 HP5 hbx HOB
    go_wp2_with (at_builtin; (refine wpList_append_at rfl (.tmp 19) _ 22 rfl w3.heap.size 5 (.int .u8 0) 1 1 Tryz.underlying22 Tryz.infoU8 rfl (by decide) _ 0 _ rfl HO5.out l2.length _ HT5.out (u8s_one _) (by unfold maxLen; omega) (by omega) SZ5.out ?_); intro ga gc w6 ho hg hb; clear hb)
    have rg := (Fr.refl (fun k => (Value.slice (some ⟨w3.heap.size, 0, none⟩) 0 0).ownBlock = some k) _).grown hg (fun k hk => .inl hk)
    have R6 := Lib.hid (R5.out.trans' rg (fun k hk _ => by simp [Value.ownBlock] at hk; have := SZ3.out; omega))
    have HP6 := Lib.hid (HP5.out.fr rg (fun hk => by simp [Value.ownBlock] at hk; have := SZ3.out; omega) (fun k hk e => by simp [Value.ownBlock] at e; have := HBT.out k hk; have := SZ3.out; omega))
    have HO6 : Hid (w6.ownsRow w.heap.size 5 1 (.slice ga l2.length gc) l2.length (u8s l2)) := Lib.hid (owns_base (by simpa using ho) (fun k hk => by have := (ho.lt k (by simpa using hk)).1; have := SZ3.out; omega))
    clear ho hg rg
    go_wp2_with fail
    go_ret
    exact ⟨_, rfl, by rw [BQ.out]; exact HO6.out, by rw [BQ.out]; exact HP6.out, R6.out⟩
  · have hm' : ¬ (most : Int) < n := by omega
    have BQ : Hid (bp = takeP bs n s2) := Lib.hid (by rw [BQ0.out, if_neg (fun h => hm h.2)])
    clear BQ0 HER
    have r3 := (Fr.refl no w2).alloc (.cells #[] 5)
    have HO := Lib.hid (owns_new w2 5 1)
    have TK := Lib.hid (reftake_ok _ pb bv bs s2 n (HP.out.fn r3) (by omega) hbl)
    have R3 := Lib.hid (R.out.trans (r3.to (T := only [pb])))
    have SZ3 : Hid (w.heap.size ≤ w2.heap.size) := Lib.hid R.out.size
    clear r3
    go_wp2_with fail
    refine TK.out.mono ?_
    rintro e w5 ⟨ta, tc, rfl, ht, ho2, hp5, r5⟩
    have HT5 := Lib.hid ht
    have HP5 := Lib.hid hp5
    have R5 := Lib.hid (R3.out.trans r5)
    have HO5 := Lib.hid (owns_fr HO.out r5 (fun k hk e => by simp [Value.ownBlock] at hk; simp at e; have := SZ3.out; omega))
    have SZ5 : Hid (w2.heap.size ≤ w5.heap.size) := Lib.hid (by have := r5.size; simp only [World.size_alloc] at this; omega)
    have HOB := Lib.hid ho2
    clear ht hp5 r5 ho2 TK HO R3
    have hbx : (takeP bs n s2).1.length ≤ bs.length := takeP_few bs n s2
    generalize takeP bs n s2 = tk2 at *
    obtain ⟨l2, s5⟩ := tk2
    dsimp only at HT5 HP5 hbx HOB
    go_wp2_with (at_builtin; (refine wpList_append_at rfl (.tmp 19) _ 22 rfl w2.heap.size 5 (.int .u8 0) 1 1 Tryz.underlying22 Tryz.infoU8 rfl (by decide) _ 0 _ rfl HO5.out l2.length _ HT5.out (u8s_one _) (by unfold maxLen; omega) (by omega) SZ5.out ?_); intro ga gc w6 ho hg hb; clear hb)
    have rg := (Fr.refl (fun k => (Value.slice (some ⟨w2.heap.size, 0, none⟩) 0 0).ownBlock = some k) _).grown hg (fun k hk => .inl hk)
    have R6 := Lib.hid (R5.out.trans' rg (fun k hk _ => by simp [Value.ownBlock] at hk; have := SZ3.out; omega))
    have HP6 := Lib.hid (HP5.out.fr rg (fun hk => by simp [Value.ownBlock] at hk; have := SZ3.out; omega) (fun k hk e => by simp [Value.ownBlock] at e; have := HBT.out k hk; have := SZ3.out; omega))
    have HO6 : Hid (w6.ownsRow w.heap.size 5 1 (.slice ga l2.length gc) l2.length (u8s l2)) := Lib.hid (owns_base (by simpa using ho) (fun k hk => by have := (ho.lt k (by simpa using hk)).1; have := SZ3.out; omega))
    clear ho hg rg
    go_wp2_with fail
    go_ret
    exact ⟨_, rfl, by rw [BQ.out]; exact HO6.out, by rw [BQ.out]; exact HP6.out, R6.out⟩

end Go.Proofs.YtdngflhfhmnipaaGreat
