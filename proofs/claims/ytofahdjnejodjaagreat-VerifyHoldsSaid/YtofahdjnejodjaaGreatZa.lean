/- The document's places, at, Check (law10). -/
import Derived.Test.YtofahdjnejodjaaGreatFg
set_option linter.unusedSimpArgs false
set_option linter.unusedVariables false
set_option linter.unusedSectionVars false
set_option linter.unnecessarySimpa false
namespace Go.Proofs.YtofahdjnejodjaaGreat
open Go.RowKit Go.Flow

attribute [local go_sem] Program.isFuncB Program.isSliceB

variable {w w' w'' w0 : World}


set_option maxRecDepth 100000 in
set_option maxHeartbeats 4000000 in
theorem places_ok (w : World) (sa : Option Addr) (c : Nat) (is : List Ix) (hin : CodeIn w sa is) (hlen : is.length ≤ 1000) (hargs : ∀ i ∈ is, i.l.length ≤ 1000) :
    Calls Tryz.prog 73 #[.slice sa is.length c] w fun e w' => ∃ u, e = .returned u ∧ w'.ownsRow w.heap.size 3 1 u is.length (ints (placesOf is)) ∧ Fr no w w' := by
  have HIN := Lib.hid hin
  have HAR := Lib.hid hargs
  have HPB := Lib.hid (plc_bound is)
  have HPO : Hid (ints (placesOf is) = (List.range is.length).map fun k => .int .i64 (plc (fis is) k : Nat)) := Lib.hid (by
    unfold ints placesOf
    rw [List.map_map]
    apply List.map_congr_left
    intro k _
    simp [plc_fis])
  clear hin hargs
  go_enter Tryz.func73, Tryz.ntmps73
  go_wp2_with fail
  go_loopw [3, 4, 5] (fun x y z wr => ∃ k : Nat, k ≤ is.length ∧ z = .int .i64 k ∧ y = .int .i64 (plc (fis is) k) ∧ Hid (wr.ownsRow w.heap.size 3 1 x k ((List.range k).map fun k => .int .i64 (plc (fis is) k : Nat))) ∧ Hid (Fr no w wr)) (fun _ _ z _ => (is.length - intOf z).toNat)
  case atStart => exact ⟨0, by omega, rfl, rfl, Lib.hid (World.ownsRow_nil _ _ _ _), Lib.hid (Fr.refl _ _)⟩
  case round =>
    obtain ⟨k, hk, rfl, rfl, hown, hfr⟩ := hrel
    obtain ⟨xa, xc, rfl⟩ := owns_shape hown.out
    by_cases hks : k < is.length
    · have hks' : (k : Int) < is.length := by omega
      obtain ⟨b, of, u, rfl, hi0⟩ := HIN.out k hks
      obtain ⟨ua, uc, rfl⟩ := hi0.args.shape
      have hal := HAR.out is[k] (List.getElem_mem _)
      have HLN := Lib.hid (fun w1 (h : Fr no w w1) => reflength_ok w1 is[k] _ (hi0.args.fr h (by simp)) (by omega))
      have HSN : Hid (plc (fis is) (k + 1) = plc (fis is) k + (encE is[k]).length) := Lib.hid (by rw [plc_succ _ _ (by rw [fis_len]; exact hks), fis_at is k hks]; rfl)
      have HI0 := Lib.hid hi0
      have HRG : Hid ((List.range (k + 1)).map (fun k => Value.int .i64 (plc (fis is) k : Nat)) = (List.range k).map (fun k => Value.int .i64 (plc (fis is) k : Nat)) ++ [.int .i64 (plc (fis is) k : Nat)]) := Lib.hid (by rw [List.range_succ, List.map_append]; rfl)
      have hpb := HPB.out k
      have hel := encE_len is[k]
      generalize hpk : plc (fis is) k = pk at *
      generalize (encE is[k]).length = en at *
      generalize is[k] = ix at *
      clear hi0 hpk
      obtain ⟨io, iA, iB, iC, iN, il⟩ := ix
      dsimp only at HLN hal
      unfold insV at HLN
      go_upto_region 7 with (at_builtin; (refine wpList_append_at rfl (.tmp 12) _ 45 rfl w.heap.size 3 (.int .i64 0) 1 8 Tryz.underlying45 Tryz.infoInt rfl (by decide) _ k _ rfl (hown.out.alloc _) 1 _ (reads_one wr _ _) int_one (by unfold maxLen; omega) (by omega) (by have := hfr.out.size; simp; omega) ?_); intro ga gc w7 ho7 hg7 hb7)
      have r7 := ((Fr.refl (fun b => (Value.slice xa k xc).ownBlock = some b) wr).alloc (.cells #[.int .i64 pk] 3)).trans ((Fr.refl (fun b => (Value.slice xa k xc).ownBlock = some b) _).grown hg7 (fun k hk => .inl hk))
      have F7 := Lib.hid (hfr.out.trans' r7 (fun b hb _ => (hown.out.lt b hb).1))
      have HO7 : Hid (w7.ownsRow w.heap.size 3 1 (.slice ga (k + 1) gc) (k + 1) ((List.range (k + 1)).map fun k => .int .i64 (plc (fis is) k : Nat))) := Lib.hid (by rw [HRG.out]; exact ho7)
      have HLN7 := Lib.hid (HLN.out w7 F7.out)
      have hi7 := HI0.out.fr F7.out
      obtain ⟨c0, c1, c2, c3, c4, c5⟩ := hi7.six
      dsimp only at c0 c1 c2 c3 c4 c5
      clear r7 hg7 hb7 ho7 HLN hown hfr hi7 HI0 HRG
      go_wp2_with fail
      refine HLN7.out.mono ?_
      rintro e w8 ⟨rfl, r8⟩
      have F8 := Lib.hid (F7.out.trans r8)
      have HO8 := Lib.hid (owns_fr HO7.out r8 (by simp))
      clear r8 F7 HO7 c0 c1 c2 c3 c4 c5
      go_wp2_with fail
      go_roundw
      case rel => exact ⟨k + 1, by omega, by go_num, by rw [HSN.out]; go_num, HO8, F8⟩
      case measure => first | (simp [intOf]; done) | (simp [intOf]; omega)
    · obtain rfl : k = is.length := by omega
      have HQ : Hid (wr.ownsRow w.heap.size 3 1 (.slice xa is.length xc) is.length (ints (placesOf is))) := Lib.hid (by rw [HPO.out]; exact hown.out)
      clear hown
      go_wp2_with fail
      go_ret
      exact ⟨_, rfl, HQ.out, hfr.out⟩

/-- what at answers -/
def atZ (l : List Fi) (t : Int) : Int := match atO l t with | some k => k | none => -1
theorem atZ_hit (l : List Fi) (k : Nat) (hk : k < l.length) (t : Int) (h : (plc l k : Int) = t) (hpre : ∀ j, j < k → (plc l j : Int) ≠ t) : atZ l t = k := by
  have : atO l t = some k := by
    unfold atO
    rw [List.find?_eq_some_iff_getElem]
    refine ⟨decide_eq_true h, k, by simpa using hk, by simp, fun j hj => ?_⟩
    simpa using hpre j hj
  unfold atZ; rw [this]
theorem atZ_none (l : List Fi) (t : Int) (h : ∀ j, j < l.length → (plc l j : Int) ≠ t) : atZ l t = -1 := by
  have : atO l t = none := by
    unfold atO
    rw [List.find?_eq_none]
    intro j hj
    simpa using h j (List.mem_range.1 hj)
  unfold atZ; rw [this]
theorem places_at (is : List Ix) (k : Nat) (hk : k < is.length) : (ints (placesOf is))[k]? = some (.int .i64 (plc (fis is) k : Nat)) := by
  rw [placesOf_at is k hk, plc_fis]

set_option maxRecDepth 100000 in
set_option maxHeartbeats 4000000 in
theorem at_ok (w : World) (pa : Option Addr) (pc : Nat) (is : List Ix) (t : Int) (hp : Reads w (.slice pa is.length pc) 1 is.length (ints (placesOf is))) (hl : is.length ≤ 1000) :
    Calls Tryz.prog 98 #[.slice pa is.length pc, .int .i64 t] w fun e w' => e = .returned (.int .i64 (atZ (fis is) t)) ∧ w = w' := by
  have HR := Lib.hid hp
  clear hp
  go_enter Tryz.func98, Tryz.ntmps98
  go_wp2_with fail
  go_loop [5] (fun y => ∃ k : Nat, k ≤ is.length ∧ y = .int .i64 k ∧ Hid (∀ j, j < k → (plc (fis is) j : Int) ≠ t)) (fun y => (is.length - intOf y).toNat)
  case atStart => exact ⟨0, by omega, rfl, Lib.hid (fun j h => by omega)⟩
  case round =>
    obtain ⟨k, hk, rfl, hpre⟩ := hrel
    by_cases hks : k < is.length
    · have hks' : (k : Int) < is.length := by omega
      obtain ⟨b, o, rfl, c1⟩ := HR.out.at1 (places_at is k hks)
      by_cases he : (plc (fis is) k : Int) = t
      · have HQ : Hid (atZ (fis is) t = k) := Lib.hid (atZ_hit _ k (by rw [fis_len]; exact hks) t he hpre.out)
        have hc : (((plc (fis is) k : Nat) : Int) == t) = true := by simpa using he
        generalize plc (fis is) k = y at *
        clear he
        go_wp2_with fail
        go_ret
        exact ⟨by rw [HQ.out]; rfl, rfl⟩
      · have hc : (((plc (fis is) k : Nat) : Int) == t) = false := by simpa using he
        have HN : Hid (∀ j, j < k + 1 → (plc (fis is) j : Int) ≠ t) := Lib.hid (fun j hj => by
          by_cases e : j = k
          · subst e; exact he
          · exact hpre.out j (by omega))
        generalize plc (fis is) k = y at *
        clear he
        go_wp2_with fail
        go_round
        case rel => exact ⟨k + 1, by omega, by go_num, HN⟩
        case measure => first | (simp [intOf]; done) | (simp [intOf]; omega)
    · obtain rfl : k = is.length := by omega
      have HQ : Hid (atZ (fis is) t = -1) := Lib.hid (atZ_none _ t (fun j hj => hpre.out j (by rwa [fis_len] at hj)))
      go_wp2_with fail
      go_ret
      exact ⟨by rw [HQ.out]; rfl, rfl⟩


theorem hasT (o : Int) : decide ((0 : Int) < (hasN (sh o) [116] : Nat)) = hasB (sh o) 116 := by
  rw [← (sh_facts o).2.2.2]
  apply decide_eq_decide.2
  omega

set_option maxHeartbeats 1000000 in
theorem reftarget_ok (w : World) (o A B C N : Int) (args : Value) : Calls Tryz.prog 97 #[insV o A B C N args] w fun e w' => e = .returned (.int .i64 (if hasB (sh o) 116 then N else -1)) ∧ Fr no w w' := by
  have HSH := Lib.hid (fun w => refshape_all w o)
  have hsz : (shapeI o).size ≤ 3 := (shape_ok o).size
  have HC := Lib.hid (fun w => has_ok w (shapeI o) ⟨#[116]⟩ (by omega) (by decide))
  have HT := Lib.hid (hasT o)
  unfold sh at *
  generalize shapeI o = s at *
  change Hid (decide ((0 : Int) < (hasN s.data.toList [116] : Nat)) = hasB s.data.toList 116) at HT
  change Hid (∀ w, Calls Tryz.prog 77 #[.string s, .string ⟨#[116]⟩] w fun e w' => e = .returned (.int .i64 (hasN s.data.toList [116] : Nat)) ∧ ∃ q, w' = w.drewN q) at HC
  generalize hasN s.data.toList [116] = n at *
  generalize hasB s.data.toList 116 = b at *
  unfold insV
  have HO := Lib.hid (insObj w o A B C N args)
  have R0 := Lib.hid ((Fr.refl no w).alloc (.cells #[.int .i64 o, .int .i64 A, .int .i64 B, .int .i64 C, .int .i64 N, args] 47))
  clear hsz
  cases b with
  | true =>
    have hn : (0 : Int) < (n : Int) := of_decide_eq_true HT.out
    go_enter Tryz.func97, Tryz.ntmps97
    go_wp2_with fail
    refine (HSH.out _).mono ?_
    rintro e w1 ⟨rfl, rfl⟩
    go_wp2_with fail
    refine (HC.out _).mono ?_
    rintro e w' ⟨rfl, q, rfl⟩
    have r := (Fr.refl no (w.alloc (.cells #[.int .i64 o, .int .i64 A, .int .i64 B, .int .i64 C, .int .i64 N, args] 47))).drewN q
    have R1 := Lib.hid (R0.out.drewN q)
    have H1 := Lib.hid (r.heap HO.out (by simp))
    clear r
    generalize World.drewN (w.alloc (.cells #[.int .i64 o, .int .i64 A, .int .i64 B, .int .i64 C, .int .i64 N, args] 47)) q = w3 at *
    have c4 : w3.cell? ⟨w.heap.size, 4, none⟩ = some (.int .i64 N) := cell_of_heap H1.out rfl
    go_wp2_with fail
    go_ret
    exact ⟨rfl, R1.out⟩
  | false =>
    have hn : ¬ (0 : Int) < (n : Int) := of_decide_eq_false HT.out
    go_enter Tryz.func97, Tryz.ntmps97
    go_wp2_with fail
    refine (HSH.out _).mono ?_
    rintro e w1 ⟨rfl, rfl⟩
    go_wp2_with fail
    refine (HC.out _).mono ?_
    rintro e w' ⟨rfl, q, rfl⟩
    have R1 := Lib.hid (R0.out.drewN q)
    go_wp2_with fail
    go_ret
    exact ⟨rfl, R1.out⟩

theorem reffalls_ok (w : World) (o A B C N : Int) (args : Value) : Calls Tryz.prog 99 #[insV o A B C N args] w fun e w' => e = .returned (.bool (fallsI o)) ∧ Fr no w w' := by
  unfold insV
  have R : Hid (Fr no w (w.alloc (.cells #[.int .i64 o, .int .i64 A, .int .i64 B, .int .i64 C, .int .i64 N, args] 47))) := Lib.hid ((Fr.refl no w).alloc _)
  by_cases h : o = 25 ∨ o = 29 ∨ o = 32
  · rcases h with rfl | rfl | rfl
    all_goals
      have HC := Lib.hid (fun (w : World) (n : Int) (h : 0 ≤ n ∧ n < 33) => (show Calls Tryz.prog 114 #[.int .i64 n] w fun e w' => e = .returned (.bool true) ∧ w = w' from by have := refis_all w n; rwa [decide_eq_true h] at this))
      go_enter Tryz.func99, Tryz.ntmps99
      go_wp2_with fail
      refine (HC.out _ _ (by omega)).mono ?_
      rintro e w' ⟨rfl, rfl⟩
      go_wp2_with fail
      go_ret
      exact ⟨rfl, R.out⟩
  · have e1 : (o == 25) = false := by rw [beq_eq_false_iff_ne]; omega
    have e2 : (o == 29) = false := by rw [beq_eq_false_iff_ne]; omega
    have e3 : (o == 32) = false := by rw [beq_eq_false_iff_ne]; omega
    have HF : Hid (fallsI o = decide (0 ≤ o ∧ o < 33)) := Lib.hid (by simp [fallsI, bne, e1, e2, e3])
    have C := refis_all (w.alloc (.cells #[.int .i64 o, .int .i64 A, .int .i64 B, .int .i64 C, .int .i64 N, args] 47)) o
    rw [HF.out]
    generalize decide (0 ≤ o ∧ o < 33) = b at *
    have HC := Lib.hid C
    have f1 : (o != 25) = true := by rw [bne_iff_ne]; omega
    have f2 : (o != 29) = true := by rw [bne_iff_ne]; omega
    have f3 : (o != 32) = true := by rw [bne_iff_ne]; omega
    clear h C e1 e2 e3
    cases b
    all_goals
      go_enter Tryz.func99, Tryz.ntmps99
      go_wp2_with fail
      refine HC.out.mono ?_
      rintro e w' ⟨rfl, rfl⟩
      go_wp2_with fail
      go_ret
      exact ⟨rfl, R.out⟩

end Go.Proofs.YtofahdjnejodjaaGreat
