/- law08's bytes, echo, fails, awake. -/
import Derived.Test.YtdngflhfhmnipaaGreatM16
import Derived.Test.YtdngflhfhmnipaaGreatM19
set_option linter.unusedSimpArgs false
set_option linter.unusedVariables false
set_option linter.unusedSectionVars false
set_option linter.unnecessarySimpa false
namespace Go.Proofs.YtdngflhfhmnipaaGreat
open Go.RowKit

attribute [local go_sem] Program.isFuncB Program.isSliceB

variable {w w' w'' w0 : World}

def echoI : List Ix := [⟨30, 0, 0, 0, 0, []⟩, ⟨32, 0, 0, 0, 0, []⟩]
def echoF (p r : Int) : Fx := ⟨p, r, 0, echoI⟩
def echoX (p r : Int) : Mx := ⟨[], [echoF p r]⟩
def echoBs : List Nat := [84, 87, 1, 0, 0, 1, 0, 1, 0, 0, 4, 0, 30, 0, 32, 0]
theorem echo_small (p r : Int) : (echoX p r).Small := ⟨by simp [echoX], by simp [echoX], fun f hf => by
  simp only [echoX, List.mem_singleton] at hf
  subst hf
  exact ⟨by simp [echoF, echoI], fun i hi => by simp [echoF, echoI] at hi; rcases hi with rfl | rfl <;> simp⟩, fun b hb => by simp [echoX] at hb⟩
theorem echo_put : modCk (echoX 0 1) = 0 ∧ putM (echoX 0 1) = echoBs := ⟨by kernel_rfl, by kernel_rfl⟩
theorem echo_get : getM echoBs = (echoX 0 1, 0, 0) := by kernel_rfl

/-- the echo module's blocks -/
structure EchoAt (w : World) (b : Nat) (p r : Int) : Prop where
  code : w.heap[b]? = some (.cells #[.int .i64 30, .int .i64 0, .int .i64 0, .int .i64 0, .int .i64 0, .slice none 0 0, .int .i64 32, .int .i64 0, .int .i64 0, .int .i64 0, .int .i64 0, .slice none 0 0] 47 (0, 0))
  fn : w.heap[b + 1]? = some (.cells #[.int .i64 p, .int .i64 r, .int .i64 0, .slice (some ⟨b, 0, none⟩) 2 2] 44 (0, 0))
theorem EchoAt.mod {b : Nat} {p r : Int} (h : EchoAt w b p r) : ModIn w (echoX p r) none 0 (some ⟨b + 1, 0, none⟩) := by
  refine ⟨.inl ⟨rfl, rfl, rfl⟩, fun k hk => ?_⟩
  obtain rfl : k = 0 := by simp [echoX] at hk; exact hk
  refine ⟨b + 1, 0, some ⟨b, 0, none⟩, 2, rfl, ⟨fun j v hj => ?_, fun k hk => ?_⟩⟩
  · have hj4 : j < 4 := (List.getElem?_eq_some_iff.1 hj).1
    refine cell_of_heap h.fn ?_
    rw [show 0 + 0 * 4 + j = j from by omega]
    rw [← hj]
    simp [echoX, echoF, Fx.cells, echoI]
  · have hk2 : k < 2 := by simpa [echoX, echoF, echoI] using hk
    refine ⟨b, 0, .slice none 0 0, rfl, ⟨fun j v hj => ?_, ?_⟩⟩
    · have hj6 : j < 6 := (List.getElem?_eq_some_iff.1 hj).1
      refine cell_of_heap h.code ?_
      rw [← hj]
      obtain rfl | rfl : k = 0 ∨ k = 1 := by omega
      · obtain rfl | rfl | rfl | rfl | rfl | rfl : j = 0 ∨ j = 1 ∨ j = 2 ∨ j = 3 ∨ j = 4 ∨ j = 5 := by omega
        all_goals rfl
      · obtain rfl | rfl | rfl | rfl | rfl | rfl : j = 0 ∨ j = 1 ∨ j = 2 ∨ j = 3 ∨ j = 4 ∨ j = 5 := by omega
        all_goals rfl
    · obtain rfl | rfl : k = 0 ∨ k = 1 := by omega
      · exact .inl ⟨rfl, rfl, rfl⟩
      · exact .inl ⟨rfl, rfl, rfl⟩
theorem EchoAt.fr {b : Nat} {p r : Int} (h : EchoAt w b p r) (f : Fr no w w') : EchoAt w' b p r := ⟨f.heap h.code (by simp), f.heap h.fn (by simp)⟩

set_option maxRecDepth 100000 in
set_option maxHeartbeats 4000000 in
theorem echo_ok (w : World) : Calls Tryz.prog 21 #[] w fun e w' => e = .returned (.agg #[.slice none 0 0, .slice (some ⟨w.heap.size + 2, 0, none⟩) 1 1]) ∧ EchoAt w' (w.heap.size + 1) 0 1 ∧ Fr no w w' := by
  have C : ∀ (o0 o1 o2 : Obj), ((w.alloc o0).alloc o1).heap[w.heap.size + 1]? = some o1 ∧ (((w.alloc o0).alloc o1).alloc o2).heap[w.heap.size + 1 + 1]? = some o2 := fun o0 o1 o2 =>
    ⟨by have := heap_new (w.alloc o0) o1; rwa [World.size_alloc] at this, by have := heap_new ((w.alloc o0).alloc o1) o2; rwa [World.size_alloc, World.size_alloc] at this⟩
  go_enter Tryz.func21, Tryz.ntmps21
  go_wp2_with fail
  refine bodyPost_ret (results_cell rfl rfl (load_mod _ _ _ _ (heap_keep (heap_keep (heap_new w _) _) _))) rfl ?_
  exact ⟨rfl, ⟨heap_keep (C _ _ (.cells #[] 3)).1 _, (C _ _ _).2⟩, (((Fr.refl no w).alloc _).alloc _).alloc _⟩

theorem bytesm_ok (w : World) : Calls Tryz.prog 22 #[] w fun e w' => e = .returned (.slice (some ⟨w.heap.size, 0, none⟩) 16 16) ∧ w' = w.alloc (.cells (u8s echoBs).toArray 5) := by
  go_enter Tryz.func22, Tryz.ntmps22
  go_wp2_with fail
  go_ret
  exact ⟨rfl, rfl⟩

theorem load_at (w : World) (b : Nat) (cs : Array Value) (t : TypeId) (h : w.heap[b]? = some (.cells cs t (0, 0))) : At w b 0 cs.toList := At.of_heap h

def alnum (b o n c : Nat) : Value := .slice (some ⟨b, o, none⟩) n c
theorem echo_reads (w : World) : Reads (w.alloc (.cells (u8s echoBs).toArray 5)) (.slice (some ⟨w.heap.size, 0, none⟩) 16 16) 1 echoBs.length (u8s echoBs) := owns_reads (owns_row w (u8s echoBs) 5 (by simp [u8s, echoBs]))
theorem echo_lt : ∀ b ∈ echoBs, b < 256 := by intro b hb; simp [echoBs] at hb; omega

set_option maxRecDepth 100000 in
set_option maxHeartbeats 16000000 in
theorem awake_ok (w : World) : Calls Tryz.prog 6 #[] w fun e w' => e = .returned (.bool true) ∧ Fr no w w' := by
  go_enter Tryz.func6, Tryz.ntmps6
  go_wp2_with fail
  refine (echo_ok w).mono ?_
  rintro e w1 ⟨rfl, he1, r1⟩
  have PM := putm_ok w1 (echoX 0 1) none 0 (some ⟨w.heap.size + 2, 0, none⟩) 1 he1.mod (echo_small 0 1)
  rw [echo_put.1, echo_put.2] at PM
  dsimp only [echoX, List.length_nil, List.length_cons, Nat.zero_add] at PM
  have PMH := Lib.hid PM
  have R1 := Lib.hid r1
  clear PM r1 he1
  go_wp2_with fail
  refine PMH.out.mono ?_
  rintro e w2 ⟨v, rfl, hv, -, r2⟩
  obtain ⟨va, vc, rfl⟩ := owns_shape hv
  have HV := Lib.hid (owns_reads hv)
  have R2 := Lib.hid (R1.out.trans r2)
  clear hv r2 PMH R1
  go_wp2_with fail
  refine (bytesm_ok w2).mono ?_
  rintro e w3 ⟨rfl, hw3⟩
  have r3 : Fr no w2 w3 := by rw [hw3]; exact (Fr.refl no w2).alloc _
  have hr3 : Reads w3 (.slice (some ⟨w2.heap.size, 0, none⟩) 16 16) 1 echoBs.length (u8s echoBs) := by rw [hw3]; exact echo_reads w2
  have hs3 : w2.heap.size < w3.heap.size := by rw [hw3]; simp
  have GG := modget_ok w3 _ echoBs hr3 (.inr ⟨_, _, _, rfl⟩) echo_lt (by simp [echoBs]) (getMx_small echoBs (by simp [echoBs]) echo_lt) (fun k hk => by have h9 : w2.heap.size = k := (by simpa [Value.ownBlock] using hk); omega)
  rw [echo_get] at GG
  dsimp only at GG
  have GGH := Lib.hid GG
  have R3 := Lib.hid (R2.out.trans r3)
  have HV3 := Lib.hid (HV.out.fr r3 (by simp))
  clear GG r3 hr3 hs3 hw3 HV R2
  go_wp2_with fail
  refine GGH.out.mono ?_
  rintro e w4 ⟨da, dc, fa, fc, rfl, hm4, -, -, r4⟩
  have HM4 := Lib.hid hm4
  have R4 := Lib.hid (R3.out.trans r4)
  have HV4 := Lib.hid (HV3.out.fr r4 (by simp))
  clear GGH r4 hm4 R3 HV3
  dsimp only [echoX, List.length_nil, List.length_cons, Nat.zero_add]
  have e0 : ((0 : Int) == 0) = true := rfl
  go_upto_region 3 with fail
  have C0 := heap_keep (heap_new w4 (.cells #[.slice da 0 dc, .slice fa 1 fc] 25)) (.cells #[.int .i64 0, .int .i64 0] 38)
  have C1 := heap_new2' w4 (.cells #[.slice da 0 dc, .slice fa 1 fc] 25) (.cells #[.int .i64 0, .int .i64 0] 38)
  have r5 := ((Fr.refl no w4).alloc (.cells #[.slice da 0 dc, .slice fa 1 fc] 25)).alloc (.cells #[.int .i64 0, .int .i64 0] 38)
  have HM5 := Lib.hid (HM4.out.fr r5.drew)
  have R5 := Lib.hid (R4.out.trans r5.drew)
  have HV5 := Lib.hid (HV4.out.fr r5.drew (by simp))
  have A0 : At (((w4.alloc (.cells #[.slice da 0 dc, .slice fa 1 fc] 25)).alloc (.cells #[.int .i64 0, .int .i64 0] 38)).drew) w4.heap.size 0 [.slice da 0 dc, .slice fa 1 fc] := At.of_heap C0
  have A1 : At (((w4.alloc (.cells #[.slice da 0 dc, .slice fa 1 fc] 25)).alloc (.cells #[.int .i64 0, .int .i64 0] 38)).drew) (w4.heap.size + 1) 0 [.int .i64 0, .int .i64 0] := At.of_heap C1
  clear C0 C1 r5 HM4 R4 HV4
  refine Lex.region [4, 5, 14, 15, 19, 20] [23] (by kernel_rfl) (by kernel_rfl) ?_
  refine Lex.opens (fun w' => At w' w4.heap.size 0 [.slice da 0 dc, .slice fa 1 fc] ∧ At w' (w4.heap.size + 1) 0 [.int .i64 0, .int .i64 0]) (⟨A0, A1⟩) ?_
  generalize ((w4.alloc (.cells #[.slice da 0 dc, .slice fa 1 fc] 25)).alloc (.cells #[.int .i64 0, .int .i64 0] 38)).drew = w5 at *
  have HA5 := Lib.hid A0
  have HB5 := Lib.hid A1
  clear A0 A1
  repeat (first
    | (refine Lex.skips (by rfl) ?_; (try simp only [Act.put, List.setIfInBounds_toArray, List.set_cons_zero, List.set_cons_succ]))
    | (refine Lex.into (by rfl) (by rfl) _ _ rfl _ _ rfl _ _ (fun w' h => h.2) Tryz.underlying38 rfl (by rw [Tryz.infoFault]; rfl) ?_; (try simp only [Act.put, List.setIfInBounds_toArray, List.set_cons_zero, List.set_cons_succ]))
    | (refine Lex.into (by rfl) (by rfl) _ _ rfl _ _ rfl _ _ (fun w' h => h.1) Tryz.underlying25 rfl (by rw [Tryz.infoMod2]; rfl) ?_; (try simp only [Act.put, List.setIfInBounds_toArray, List.set_cons_zero, List.set_cons_succ]))
    | (refine Lex.quiet (v := ?_) (by rfl) (by rfl) ?_ ?_; rotate_left; (focus (intro w' hS'; go_simp; try rfl)); (try simp only [Act.put, List.setIfInBounds_toArray, List.set_cons_zero, List.set_cons_succ])))
  refine Lex.loud (by rfl) (by rfl) ?_
  intro K' hK'
  go_simp
  refine (bytesm_ok w5).mono ?_
  rintro e w6 ⟨rfl, hw6⟩
  have r6 : Fr no w5 w6 := by rw [hw6]; exact (Fr.refl no w5).alloc _
  have SB := samebytes_ok w6 _ _ echoBs echoBs (HV5.out.fr r6 (by simp)) (by rw [hw6]; exact echo_reads w5) echo_lt echo_lt
  rw [decide_eq_true rfl] at SB
  have SBH := Lib.hid SB
  have R6 := Lib.hid (R5.out.trans r6)
  have HM6 := Lib.hid (HM5.out.fr r6)
  have HA6 := Lib.hid (HA5.out.fr r6)
  have HB6 := Lib.hid (HB5.out.fr r6)
  clear SB r6 hw6 R5 HM5 HA5 HB5 HV5
  refine hK' _ _ (⟨HA6.out, HB6.out⟩) ?_
  clear hK'
  try simp only [Act.put, List.setIfInBounds_toArray, List.set_cons_zero, List.set_cons_succ]
  repeat (first
    | (refine Lex.skips (by rfl) ?_; (try simp only [Act.put, List.setIfInBounds_toArray, List.set_cons_zero, List.set_cons_succ]))
    | (refine Lex.into (by rfl) (by rfl) _ _ rfl _ _ rfl _ _ (fun w' h => h.2) Tryz.underlying38 rfl (by rw [Tryz.infoFault]; rfl) ?_; (try simp only [Act.put, List.setIfInBounds_toArray, List.set_cons_zero, List.set_cons_succ]))
    | (refine Lex.into (by rfl) (by rfl) _ _ rfl _ _ rfl _ _ (fun w' h => h.1) Tryz.underlying25 rfl (by rw [Tryz.infoMod2]; rfl) ?_; (try simp only [Act.put, List.setIfInBounds_toArray, List.set_cons_zero, List.set_cons_succ]))
    | (refine Lex.quiet (v := ?_) (by rfl) (by rfl) ?_ ?_; rotate_left; (focus (intro w' hS'; go_simp; try rfl)); (try simp only [Act.put, List.setIfInBounds_toArray, List.set_cons_zero, List.set_cons_succ])))
  refine Lex.loud (by rfl) (by rfl) ?_
  intro K' hK'
  go_simp
  refine SBH.out.mono ?_
  rintro e w7 ⟨rfl, rfl⟩
  clear SBH
  refine hK' _ _ (⟨HA6.out, HB6.out⟩) ?_
  clear hK'
  try simp only [Act.put, List.setIfInBounds_toArray, List.set_cons_zero, List.set_cons_succ]
  repeat (first
    | (refine Lex.skips (by rfl) ?_; (try simp only [Act.put, List.setIfInBounds_toArray, List.set_cons_zero, List.set_cons_succ]))
    | (refine Lex.into (by rfl) (by rfl) _ _ rfl _ _ rfl _ _ (fun w' h => h.2) Tryz.underlying38 rfl (by rw [Tryz.infoFault]; rfl) ?_; (try simp only [Act.put, List.setIfInBounds_toArray, List.set_cons_zero, List.set_cons_succ]))
    | (refine Lex.into (by rfl) (by rfl) _ _ rfl _ _ rfl _ _ (fun w' h => h.1) Tryz.underlying25 rfl (by rw [Tryz.infoMod2]; rfl) ?_; (try simp only [Act.put, List.setIfInBounds_toArray, List.set_cons_zero, List.set_cons_succ]))
    | (refine Lex.quiet (v := ?_) (by rfl) (by rfl) ?_ ?_; rotate_left; (focus (intro w' hS'; go_simp; try rfl)); (try simp only [Act.put, List.setIfInBounds_toArray, List.set_cons_zero, List.set_cons_succ])))
  refine Lex.loud (by rfl) (by rfl) ?_
  intro K' hK'
  go_simp
  refine (echo_ok w6).mono ?_
  rintro e w8 ⟨rfl, he8, r8⟩
  have SK := kitsame_ok w8 (echoX 0 1) (echoX 0 1) da fa none _ dc fc 0 1 (HM6.out.fr r8) he8.mod (echo_small 0 1) (echo_small 0 1)
  rw [decide_eq_true rfl] at SK
  dsimp only [echoX, List.length_nil, List.length_cons, Nat.zero_add] at SK
  have SKH := Lib.hid SK
  have R8 := Lib.hid (R6.out.trans r8)
  have HM8 := Lib.hid (HM6.out.fr r8)
  have HA8 := Lib.hid (HA6.out.fr r8)
  have HB8 := Lib.hid (HB6.out.fr r8)
  clear SK r8 he8 R6 HM6 HA6 HB6
  refine hK' _ _ (⟨HA8.out, HB8.out⟩) ?_
  clear hK'
  try simp only [Act.put, List.setIfInBounds_toArray, List.set_cons_zero, List.set_cons_succ]
  repeat (first
    | (refine Lex.skips (by rfl) ?_; (try simp only [Act.put, List.setIfInBounds_toArray, List.set_cons_zero, List.set_cons_succ]))
    | (refine Lex.into (by rfl) (by rfl) _ _ rfl _ _ rfl _ _ (fun w' h => h.2) Tryz.underlying38 rfl (by rw [Tryz.infoFault]; rfl) ?_; (try simp only [Act.put, List.setIfInBounds_toArray, List.set_cons_zero, List.set_cons_succ]))
    | (refine Lex.into (by rfl) (by rfl) _ _ rfl _ _ rfl _ _ (fun w' h => h.1) Tryz.underlying25 rfl (by rw [Tryz.infoMod2]; rfl) ?_; (try simp only [Act.put, List.setIfInBounds_toArray, List.set_cons_zero, List.set_cons_succ]))
    | (refine Lex.quiet (v := ?_) (by rfl) (by rfl) ?_ ?_; rotate_left; (focus (intro w' hS'; go_simp; try rfl)); (try simp only [Act.put, List.setIfInBounds_toArray, List.set_cons_zero, List.set_cons_succ])))
  refine Lex.loud (by rfl) (by rfl) ?_
  intro K' hK'
  go_simp
  refine SKH.out.mono ?_
  rintro e w9 ⟨rfl, r9⟩
  have R9 := Lib.hid (R8.out.trans r9)
  have HM9 := Lib.hid (HM8.out.fr r9)
  have HA9 := Lib.hid (HA8.out.fr r9)
  have HB9 := Lib.hid (HB8.out.fr r9)
  clear SKH r9 R8 HM8 HA8 HB8
  refine hK' _ _ (⟨HA9.out, HB9.out⟩) ?_
  clear hK'
  try simp only [Act.put, List.setIfInBounds_toArray, List.set_cons_zero, List.set_cons_succ]
  repeat (first
    | (refine Lex.skips (by rfl) ?_; (try simp only [Act.put, List.setIfInBounds_toArray, List.set_cons_zero, List.set_cons_succ]))
    | (refine Lex.into (by rfl) (by rfl) _ _ rfl _ _ rfl _ _ (fun w' h => h.2) Tryz.underlying38 rfl (by rw [Tryz.infoFault]; rfl) ?_; (try simp only [Act.put, List.setIfInBounds_toArray, List.set_cons_zero, List.set_cons_succ]))
    | (refine Lex.into (by rfl) (by rfl) _ _ rfl _ _ rfl _ _ (fun w' h => h.1) Tryz.underlying25 rfl (by rw [Tryz.infoMod2]; rfl) ?_; (try simp only [Act.put, List.setIfInBounds_toArray, List.set_cons_zero, List.set_cons_succ]))
    | (refine Lex.quiet (v := ?_) (by rfl) (by rfl) ?_ ?_; rotate_left; (focus (intro w' hS'; go_simp; try rfl)); (try simp only [Act.put, List.setIfInBounds_toArray, List.set_cons_zero, List.set_cons_succ])))
  refine Lex.loud (by rfl) (by rfl) ?_
  intro K' hK'
  go_simp
  refine (echo_ok w9).mono ?_
  rintro e w10 ⟨rfl, he10, r10⟩
  have SM := samemod_ok w10 (echoX 0 1) (echoX 0 1) da fa none _ dc fc 0 1 (HM9.out.fr r10) he10.mod (echo_small 0 1) (echo_small 0 1)
  rw [decide_eq_true rfl] at SM
  dsimp only [echoX, List.length_nil, List.length_cons, Nat.zero_add] at SM
  have SMH := Lib.hid SM
  have R10 := Lib.hid (R9.out.trans r10)
  have HA10 := Lib.hid (HA9.out.fr r10)
  have HB10 := Lib.hid (HB9.out.fr r10)
  clear SM r10 he10 R9 HM9 HA9 HB9
  refine hK' _ _ (⟨HA10.out, HB10.out⟩) ?_
  clear hK'
  try simp only [Act.put, List.setIfInBounds_toArray, List.set_cons_zero, List.set_cons_succ]
  repeat (first
    | (refine Lex.skips (by rfl) ?_; (try simp only [Act.put, List.setIfInBounds_toArray, List.set_cons_zero, List.set_cons_succ]))
    | (refine Lex.into (by rfl) (by rfl) _ _ rfl _ _ rfl _ _ (fun w' h => h.2) Tryz.underlying38 rfl (by rw [Tryz.infoFault]; rfl) ?_; (try simp only [Act.put, List.setIfInBounds_toArray, List.set_cons_zero, List.set_cons_succ]))
    | (refine Lex.into (by rfl) (by rfl) _ _ rfl _ _ rfl _ _ (fun w' h => h.1) Tryz.underlying25 rfl (by rw [Tryz.infoMod2]; rfl) ?_; (try simp only [Act.put, List.setIfInBounds_toArray, List.set_cons_zero, List.set_cons_succ]))
    | (refine Lex.quiet (v := ?_) (by rfl) (by rfl) ?_ ?_; rotate_left; (focus (intro w' hS'; go_simp; try rfl)); (try simp only [Act.put, List.setIfInBounds_toArray, List.set_cons_zero, List.set_cons_succ])))
  refine Lex.loud (by rfl) (by rfl) ?_
  intro K' hK'
  go_simp
  refine SMH.out.mono ?_
  rintro e w11 ⟨rfl, r11⟩
  have R11 := Lib.hid (R10.out.trans r11)
  have HA11 := Lib.hid (HA10.out.fr r11)
  have HB11 := Lib.hid (HB10.out.fr r11)
  clear SMH r11 R10 HA10 HB10
  refine hK' _ _ (⟨HA11.out, HB11.out⟩) ?_
  clear hK'
  try simp only [Act.put, List.setIfInBounds_toArray, List.set_cons_zero, List.set_cons_succ]
  repeat (first
    | (refine Lex.skips (by rfl) ?_; (try simp only [Act.put, List.setIfInBounds_toArray, List.set_cons_zero, List.set_cons_succ]))
    | (refine Lex.quiet (v := ?_) (by rfl) (by rfl) ?_ ?_; rotate_left; (focus (intro w' hS'; go_simp; try rfl)); (try simp only [Act.put, List.setIfInBounds_toArray, List.set_cons_zero, List.set_cons_succ])))
  refine Lex.done ?_
  refine Lex.ends ?_
  go_wp2_with fail
  go_ret
  exact ⟨rfl, R11.out⟩

end Go.Proofs.YtdngflhfhmnipaaGreat
