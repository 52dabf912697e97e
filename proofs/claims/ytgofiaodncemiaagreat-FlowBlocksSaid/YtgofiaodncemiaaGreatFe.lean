/- flow.leaders. -/
import Derived.Test.YtgofiaodncemiaaGreatFd
set_option linter.unusedSimpArgs false
set_option linter.unusedVariables false
set_option linter.unusedSectionVars false
set_option linter.unnecessarySimpa false
namespace Go.Proofs.YtgofiaodncemiaaGreat
open Go.RowKit Go.Flow

attribute [local go_sem] Program.isFuncB Program.isSliceB

variable {w w' w'' w0 : World}

theorem ints_snoc (l : List Nat) (x : Nat) : ints (nats (l ++ [x])) = ints (nats l) ++ [.int .i64 x] := by simp [ints, nats]
theorem rawHeads_next (l : List Fi) (k : Nat) (hk : k < l.length) : rawHeads l (k + 1) = rawHeads l k ++ rawOf l l[k] k := by
  conv => lhs; unfold rawHeads
  rw [List.getElem?_eq_getElem hk]

set_option maxRecDepth 100000 in
set_option maxHeartbeats 4000000 in
theorem leaders_ok (w : World) (sa : Option Addr) (c : Nat) (is : List Ix) (hin : CodeIn w sa is) (hlen : is.length ≤ 1000) (hargs : ∀ i ∈ is, i.l.length ≤ 1000) (hN : ∀ i ∈ is, rng i.N) (hck : flowCk is = 0) :
    Calls Tryz.prog 37 #[.slice sa is.length c] w fun e w' => ∃ u, e = .returned u ∧ w'.ownsRow w.heap.size 3 1 u (heads (fis is)).length (ints (nats (heads (fis is)))) ∧ Fr no w w' := by
  have HIN := Lib.hid hin
  have HRN := Lib.hid (fun i (hi : i ∈ is) => show rng (tgtI i) from by unfold tgtI; split; exact hN i hi; unfold rng; omega)
  have HNU := Lib.hid (numbers_ok w sa c is hin hlen hargs (joinCk_zero is (flowCk_join hck)).1)
  have HF := Lib.hid (flowCk_flows hck)
  have HRL := Lib.hid (rawHeads_len (fis is))
  clear hin hargs hN hck
  go_enter Tryz.func37, Tryz.ntmps37
  go_wp2_with fail
  refine HNU.out.mono ?_
  rintro e w2 ⟨rfl, hm, r2⟩
  have HM := Lib.hid hm
  have R2 := Lib.hid r2
  have hb2 := HM.out.own.lt
  clear hm r2 HNU
  go_upto_region 3 with fail
  have ho3 := owns_row w2 [.int .i64 0] 3 (by simp)
  have q3 := (Fr.refl no w2).alloc (.cells #[.int .i64 0] 3)
  have R3 := Lib.hid (R2.out.trans q3)
  have HM3 := Lib.hid (HM.out.fr q3 (by simp))
  have hww := R2.out.size
  have HO3 : Hid ((w2.alloc (.cells #[.int .i64 0] 3)).ownsRow w.heap.size 3 1 (.slice (some ⟨w2.heap.size, 0, none⟩) 1 1) (rawHeads (fis is) 0).length (ints (nats (rawHeads (fis is) 0)))) := Lib.hid (owns_base ho3 (fun k hk => by simp [Value.ownBlock] at hk; omega))
  clear ho3 q3 HM R2
  generalize w2.alloc (.cells #[.int .i64 0] 3) = w3 at *
  go_wp2_with fail
  go_loopw [4, 13] (fun x y wr => ∃ k : Nat, k ≤ is.length ∧ y = .int .i64 k ∧ Hid (wr.ownsRow w.heap.size 3 1 x (rawHeads (fis is) k).length (ints (nats (rawHeads (fis is) k)))) ∧ Hid (∀ b, x.ownBlock = some b → b ≠ w.heap.size) ∧ Hid (NumMap wr w.heap.size (fis is)) ∧ Hid (Fr no w wr)) (fun _ y _ => (is.length - intOf y).toNat)
  case atStart => exact ⟨0, by omega, rfl, HO3, Lib.hid (fun b hb => by simp [Value.ownBlock] at hb; omega), HM3, R3⟩
  case round =>
    obtain ⟨k, hk, rfl, hown, hnb, hmap, hfr⟩ := hrel
    obtain ⟨xa, xc, rfl⟩ := owns_shape hown.out
    have hrl := HRL.out k
    by_cases hks : k < is.length
    · have hks' : (k : Int) < is.length := by omega
      obtain ⟨b, of, u, rfl, hi⟩ := HIN.out.fr hfr.out k hks
      obtain ⟨ua, uc, rfl⟩ := hi.args.shape
      obtain ⟨c0, c1, c2, c3, c4, c5⟩ := hi.six
      have HT : Hid (∀ w1 : World, Calls Tryz.prog 25 #[insV is[k].o is[k].A is[k].B is[k].C is[k].N (.slice ua is[k].l.length uc)] w1 fun e w' => e = .returned (.int .i64 (tgtI is[k])) ∧ Fr no w1 w') := Lib.hid (fun w1 => target_ok w1 is[k].o is[k].A is[k].B is[k].C is[k].N (.slice ua is[k].l.length uc))
      have HFA : Hid (∀ w1 : World, Calls Tryz.prog 24 #[insV is[k].o is[k].A is[k].B is[k].C is[k].N (.slice ua is[k].l.length uc)] w1 fun e w' => e = .returned (.bool (fiOf is[k]).fl) ∧ Fr no w1 w') := Lib.hid (fun w1 => falls_ok w1 is[k].o is[k].A is[k].B is[k].C is[k].N (.slice ua is[k].l.length uc))
      have HRT := Lib.hid (HRN.out is[k] (List.getElem_mem _))
      have HAT : Hid (0 ≤ tgtI is[k] → ∃ j, atO (fis is) (tgtI is[k]) = some j ∧ j < is.length) := Lib.hid (fun h => by
        have h1 := HF.out.tg _ (List.getElem_mem (by rw [fis_len]; exact hks)) (by rw [fis_at is k hks]; exact h)
        rw [fis_at is k hks] at h1
        cases h2 : atO (fis is) (tgtI is[k]) with
        | none => rw [show (fiOf is[k]).tg = tgtI is[k] from rfl, h2] at h1; cases h1
        | some j => have := (atO_some h2).1; rw [fis_len] at this; exact ⟨j, rfl, this⟩)
      have HRH : Hid (rawHeads (fis is) (k + 1) = rawHeads (fis is) k ++ ((if 0 ≤ tgtI is[k] then [(atO (fis is) (tgtI is[k])).getD 0] else []) ++ (if ((decide (0 ≤ tgtI is[k]) || !(fiOf is[k]).fl) && decide (k + 1 < is.length)) = true then [k + 1] else []))) := Lib.hid (by
        rw [rawHeads_next _ k (by rw [fis_len]; exact hks), fis_at is k hks]
        unfold rawOf
        rw [fis_len]
        rfl)
      generalize tgtI is[k] = t at *
      generalize (fiOf is[k]).fl = fl at *
      generalize rawHeads (fis is) k = rh at *
      generalize is[k] = ix at *
      clear hi
      obtain ⟨io, iA, iB, iC, iN, il⟩ := ix
      dsimp only at c0 c1 c2 c3 c4 c5 HT HFA
      unfold insV at HT HFA
      have r5 := (Fr.refl no wr).alloc (.cells #[.int .i64 io, .int .i64 iA, .int .i64 iB, .int .i64 iC, .int .i64 iN, .slice ua il.length uc] 46)
      have HI5 := Lib.hid (heap_new wr (.cells #[.int .i64 io, .int .i64 iA, .int .i64 iB, .int .i64 iC, .int .i64 iN, .slice ua il.length uc] 46))
      have R5 := Lib.hid r5
      clear r5
      go_wp2_with fail
      refine (HT.out _).mono ?_
      rintro e w6 ⟨rfl, r6⟩
      have R6 := Lib.hid (R5.out.trans r6)
      have HO6 := Lib.hid (owns_fr hown.out R6.out (by simp))
      have HI6 := Lib.hid (r6.heap HI5.out (by simp))
      have HM6 := Lib.hid (hmap.out.fr R6.out (by simp))
      have F6 := Lib.hid (hfr.out.trans R6.out)
      have hb6 := HI6.out |> fun h => (Array.getElem?_eq_some_iff.1 h).1
      have hown_lt := hown.out.lt
      have HLT := Lib.hid hown_lt
      clear r6 c0 c1 c2 c3 c4 c5 HI5 R5 hown_lt
      by_cases ht : 0 ≤ t
      · obtain ⟨j, ha, hjl⟩ := HAT.out ht
        have L := (num_run w6 w.heap.size (fis is) HM6.out t HRT.out).2
        rw [ha] at L HRH
        rw [if_pos ht, decide_eq_true ht] at HRH
        simp only [Option.getD, Bool.true_or, Bool.true_and, decide_eq_true_eq] at L HRH
        clear HAT ha
        go_upto_region 9 with (at_builtin; (refine wpList_append_at rfl (.tmp 22) _ 37 rfl w.heap.size 3 (.int .i64 0) 1 8 Tryz.underlying37 Tryz.infoInt rfl (by decide) _ rh.length _ rfl (HO6.out.alloc _) 1 _ (reads_one w6 _ _) int_one (by unfold maxLen; omega) (by omega) (by have := F6.out.size; simp; omega) ?_); intro ga gc w7 ho7 hg7 hb7; have r7 := ((Fr.refl (fun b => (Value.slice xa rh.length xc).ownBlock = some b) w6).alloc (.cells #[.int .i64 j] 3)).trans ((Fr.refl (fun b => (Value.slice xa rh.length xc).ownBlock = some b) _).grown hg7 (fun k hk => .inl hk)); have F7 := Lib.hid (F6.out.trans' r7 (fun b hb _ => (HLT.out b hb).1)); have HM7 := Lib.hid (HM6.out.fr r7 (fun h => hnb.out _ h rfl)); have HN7 : Hid (∀ b, (Value.slice ga (rh.length + 1) gc).ownBlock = some b → b ≠ w.heap.size) := Lib.hid (fun b hb => by rcases hb7 b hb with h | h; exact hnb.out b h; have := F6.out.size; simp at h; omega); have HO7 := Lib.hid ho7; clear r7 hg7 hb7 ho7)
        have HX7 : Hid (w7.ownsRow w.heap.size 3 1 (.slice ga (rh.length + 1) gc) (rh.length + 1) (ints (nats (rh ++ [j])))) := Lib.hid (by rw [ints_snoc]; exact HO7.out)
        have HRL7 : Hid ((rh ++ [j]).length = rh.length + 1) := Lib.hid (by simp)
        clear HO7 HO6 HM6 F6 L
        by_cases hn : k + 1 < is.length
        · have hn' : (k : Int) + 1 < is.length := by omega
          rw [if_pos hn] at HRH
          go_wp2_with (at_builtin; (refine wpList_append_at rfl (.tmp 42) _ 37 rfl w.heap.size 3 (.int .i64 0) 1 8 Tryz.underlying37 Tryz.infoInt rfl (by decide) _ (rh.length + 1) _ rfl (HX7.out.alloc _) 1 _ (reads_one w7 _ _) int_one (by unfold maxLen; omega) (by omega) (by have := F7.out.size; simp; omega) ?_); intro gd ge w8 ho8 hg8 hb8)
          have r8 := ((Fr.refl (fun b => (Value.slice ga (rh.length + 1) gc).ownBlock = some b) w7).alloc (.cells #[.int .i64 (k + 1)] 3)).trans ((Fr.refl (fun b => (Value.slice ga (rh.length + 1) gc).ownBlock = some b) _).grown hg8 (fun k hk => .inl hk))
          have F8 := Lib.hid (F7.out.trans' r8 (fun b hb _ => (HX7.out.lt b hb).1))
          have HM8 := Lib.hid (HM7.out.fr r8 (fun h => HN7.out _ h rfl))
          have HN8 : Hid (∀ b, (Value.slice gd (rh.length + 1 + 1) ge).ownBlock = some b → b ≠ w.heap.size) := Lib.hid (fun b hb => by rcases hb8 b hb with h | h; exact HN7.out b h; have := F7.out.size; have := HM7.out.own.lt; simp at h; omega)
          have HO8 : Hid (w8.ownsRow w.heap.size 3 1 (.slice gd (rh.length + 1 + 1) ge) (rawHeads (fis is) (k + 1)).length (ints (nats (rawHeads (fis is) (k + 1))))) := Lib.hid (by rw [HRH.out, ← List.append_assoc, ints_snoc, List.length_append]; simpa [nats_len, ints, Nat.add_assoc] using ho8)
          clear r8 hg8 hb8 ho8 HX7 F7 HM7 HN7 HRL7
          go_roundw
          case rel => exact ⟨k + 1, by omega, by go_num, HO8, HN8, HM8, F8⟩
          case measure => first | (simp [intOf]; done) | (simp [intOf]; omega)
        · have hn' : ¬ (k : Int) + 1 < is.length := by omega
          rw [if_neg hn, List.append_nil] at HRH
          have HO8 : Hid (w7.ownsRow w.heap.size 3 1 (.slice ga (rh.length + 1) gc) (rawHeads (fis is) (k + 1)).length (ints (nats (rawHeads (fis is) (k + 1))))) := Lib.hid (by rw [HRH.out, HRL7.out]; exact HX7.out)
          clear HX7
          go_wp2_with fail
          go_roundw
          case rel => exact ⟨k + 1, by omega, by go_num, HO8, HN7, HM7, F7⟩
          case measure => first | (simp [intOf]; done) | (simp [intOf]; omega)
      · rw [if_neg ht, decide_eq_false ht, List.nil_append] at HRH
        simp only [Bool.false_or] at HRH
        obtain ⟨i0, i1, i2, i3, i4, i5⟩ := cells6 HI6.out
        go_wp2_with fail
        refine (HFA.out _).mono ?_
        rintro e w7 ⟨rfl, r7⟩
        have HX7 := Lib.hid (owns_fr HO6.out r7 (by simp))
        have HM7 := Lib.hid (HM6.out.fr r7 (by simp))
        have F7 := Lib.hid (F6.out.trans r7)
        clear r7 i0 i1 i2 i3 i4 i5 HO6 HM6 F6 HAT
        cases fl
        · by_cases hn : k + 1 < is.length
          · have hn' : (k : Int) + 1 < is.length := by omega
            rw [if_pos (by simp [hn])] at HRH
            go_wp2_with (at_builtin; (refine wpList_append_at rfl (.tmp 42) _ 37 rfl w.heap.size 3 (.int .i64 0) 1 8 Tryz.underlying37 Tryz.infoInt rfl (by decide) _ rh.length _ rfl (HX7.out.alloc _) 1 _ (reads_one w7 _ _) int_one (by unfold maxLen; omega) (by omega) (by have := F7.out.size; simp; omega) ?_); intro gd ge w8 ho8 hg8 hb8)
            have r8 := ((Fr.refl (fun b => (Value.slice xa rh.length xc).ownBlock = some b) w7).alloc (.cells #[.int .i64 (k + 1)] 3)).trans ((Fr.refl (fun b => (Value.slice xa rh.length xc).ownBlock = some b) _).grown hg8 (fun k hk => .inl hk))
            have F8 := Lib.hid (F7.out.trans' r8 (fun b hb _ => (HX7.out.lt b hb).1))
            have HM8 := Lib.hid (HM7.out.fr r8 (fun h => hnb.out _ h rfl))
            have HN8 : Hid (∀ b, (Value.slice gd (rh.length + 1) ge).ownBlock = some b → b ≠ w.heap.size) := Lib.hid (fun b hb => by rcases hb8 b hb with h | h; exact hnb.out b h; have := F7.out.size; have := HM7.out.own.lt; simp at h; omega)
            have HO8 : Hid (w8.ownsRow w.heap.size 3 1 (.slice gd (rh.length + 1) ge) (rawHeads (fis is) (k + 1)).length (ints (nats (rawHeads (fis is) (k + 1))))) := Lib.hid (by rw [HRH.out, ints_snoc, List.length_append]; simpa [nats_len, ints] using ho8)
            clear r8 hg8 hb8 ho8 HX7 F7 HM7
            go_roundw
            case rel => exact ⟨k + 1, by omega, by go_num, HO8, HN8, HM8, F8⟩
            case measure => first | (simp [intOf]; done) | (simp [intOf]; omega)
          · have hn' : ¬ (k : Int) + 1 < is.length := by omega
            rw [if_neg (by simp [hn]), List.append_nil] at HRH
            have HO8 : Hid (w7.ownsRow w.heap.size 3 1 (.slice xa rh.length xc) (rawHeads (fis is) (k + 1)).length (ints (nats (rawHeads (fis is) (k + 1))))) := Lib.hid (by rw [HRH.out]; exact HX7.out)
            clear HX7
            go_wp2_with fail
            go_roundw
            case rel => exact ⟨k + 1, by omega, by go_num, HO8, hnb, HM7, F7⟩
            case measure => first | (simp [intOf]; done) | (simp [intOf]; omega)
        · rw [if_neg (by simp), List.append_nil] at HRH
          have HO8 : Hid (w7.ownsRow w.heap.size 3 1 (.slice xa rh.length xc) (rawHeads (fis is) (k + 1)).length (ints (nats (rawHeads (fis is) (k + 1))))) := Lib.hid (by rw [HRH.out]; exact HX7.out)
          clear HX7
          go_wp2_with fail
          go_roundw
          case rel => exact ⟨k + 1, by omega, by go_num, HO8, hnb, HM7, F7⟩
          case measure => first | (simp [intOf]; done) | (simp [intOf]; omega)
    · obtain rfl : k = is.length := by omega
      have HSO := Lib.hid (sorted_ok wr w.heap.size (.slice xa (rawHeads (fis is) is.length).length xc) (nats (rawHeads (fis is) is.length)) (by rw [nats_len]; exact hown.out) (by rw [nats_len]; omega))
      have HSQ : Hid (sortI (nats (rawHeads (fis is) is.length)) = nats (heads (fis is))) := Lib.hid (by have := rawHeads_sort (fis is) HF.out; rw [fis_len] at this; exact this)
      rw [HSQ.out, nats_len] at HSO
      have HLT := Lib.hid hown.out.lt
      clear hown hmap HRL
      generalize rawHeads (fis is) is.length = rh at *
      go_wp2_with fail
      refine HSO.out.mono ?_
      rintro e w9 ⟨y, rfl, ho9, hu9, r9⟩
      have HO9 := Lib.hid ho9
      have F9 := Lib.hid (hfr.out.trans' r9 (fun b hb _ => (HLT.out b hb).1))
      obtain ⟨ya, yc, rfl⟩ := owns_shape ho9
      clear ho9 r9 hu9
      go_wp2_with fail
      go_ret
      exact ⟨_, rfl, HO9.out, F9.out⟩

end Go.Proofs.YtgofiaodncemiaaGreat
