import Derived.Test.YtkgcfllbkjlfcaaO5
import Derived.Deep.CutRange
import Derived.Deep.CutBlock
namespace Go.Proofs.Ytkgcfllbkjlfcaa
open Go.RowKit

attribute [local go_sem] Program.isFuncB Program.isSliceB

variable {w w' w'' w0 : World}

/-- an instruction, as a value -/
def insV (o A B C N : Int) (args : Value) : Value := .agg #[.int .i64 o, .int .i64 A, .int .i64 B, .int .i64 C, .int .i64 N, args]

set_option maxRecDepth 100000 in
set_option maxHeartbeats 4000000 in
theorem fields_ok (w : World) (o A B C N : Int) (args : Value) : Calls Try.prog 36 #[insV o A B C N args] w fun e w' => ∃ x y,
    e = .returned (.tuple #[x, y, .int .i64 (fieldsOf [A, B, C] (shapeI o).data.toList).2.2]) ∧ Fr no w w' ∧
    w'.ownsRow w.heap.size 3 1 x (fieldsOf [A, B, C] (shapeI o).data.toList).1.length (ints (fieldsOf [A, B, C] (shapeI o).data.toList).1) ∧
    w'.ownsRow w.heap.size 3 1 y (fieldsOf [A, B, C] (shapeI o).data.toList).2.1.length (ints (fieldsOf [A, B, C] (shapeI o).data.toList).2.1) ∧ ∀ k, x.ownBlock = some k → y.ownBlock ≠ some k := by
  have hok := shape_ok o
  have HSH := Lib.hid (fun w => shape_all w o)
  generalize shapeI o = s at *
  have HOK := Lib.hid hok
  have hsz := hok.size
  clear hok
  unfold insV
  go_enter Try.func36, Try.ntmps36
  go_wp2_with fail
  refine (HSH.out _).mono ?_
  rintro e w3 ⟨rfl, r3⟩
  have ra : Fr no w w3 := (((Fr.refl no w).alloc _).alloc _).trans r3
  have hl := r3.heap (heap_new (w.alloc (.cells #[.int .i64 o, .int .i64 A, .int .i64 B, .int .i64 C, .int .i64 N, args] 30)) (.cells #[.int .i64 A, .int .i64 B, .int .i64 C] 3)) (by simp)
  simp only [World.size_alloc] at hl
  have hs3 := r3.size
  simp only [World.size_alloc] at hs3
  have RA := Lib.hid ra
  have HL := Lib.hid hl
  clear ra r3 hl
  go_wp2_with fail
  have fs0 : FS (w3.iter s 0) (w3.iter s 0) (w.heap.size + 1) w3.heap.size A B C s 0 (.slice none 0 0) (.slice none 0 0) (fieldsOf [A, B, C] (s.data.toList.take 0)).1 (fieldsOf [A, B, C] (s.data.toList.take 0)).2.1 := by
    have e : (w3.iter s 0).heap.size = w3.heap.size + 1 := World.size_alloc _ _
    exact ⟨World.ownsRow_nil _ _ _ _, World.ownsRow_nil _ _ _ _, (fun k hk => by cases hk), ((Fr.refl no w3).alloc _).heap HL.out (by simp), heap_new w3 _, Fr.refl _ _, by omega, by omega, by omega⟩
  have R4 : Hid (Fr no w (w3.iter s 0)) := Lib.hid (RA.out.alloc _)
  have HF0 := Lib.hid fs0
  have hs4 : (w3.iter s 0).heap.size = w3.heap.size + 1 := World.size_alloc _ _
  generalize w3.iter s 0 = w4 at *
  have HS4 := Lib.hid hs4
  generalize hlb : w.heap.size + 1 = lb at *
  generalize hit : w3.heap.size = itb at *
  have HLB := Lib.hid hlb
  have HIT := Lib.hid hit
  clear fs0 hs4 hs3 hlb hit
  go_loopw [2, 3, 4] (fun x y z wr => ∃ k : Nat, z = .int .i64 (fieldsOf [A, B, C] (s.data.toList.take k)).2.2 ∧ k ≤ s.size ∧ Hid (FS w4 wr lb itb A B C s k x y (fieldsOf [A, B, C] (s.data.toList.take k)).1 (fieldsOf [A, B, C] (s.data.toList.take k)).2.1)) (fun _ _ _ wr => itLeft wr itb)
  case atStart => exact ⟨0, rfl, by omega, HF0⟩
  case round =>
    obtain ⟨k, rfl, hk, hfs⟩ := hrel
    have hlen := fieldsOf_len [A, B, C] k (s.data.toList.take k) (blen_take s k hk)
    by_cases hks : k < s.size
    · have hnext : ∀ ty, (Instr.next (.pointer (some ⟨itb, 0, none⟩)) true ty).run Try.prog wr = .ok (.tuple #[.bool true, .int .i64 k, .int .i32 (s[k]'hks).toNat]) (wr.iterAt itb s (k + 1)) := fun ty =>
        Lib.run_next_ascii_at wr itb s k ty hfs.out.iter hks (HOK.out.ascii k hks)
      have hsnoc : fieldsOf [A, B, C] (s.data.toList.take (k + 1)) = stepF [A, B, C] (fieldsOf [A, B, C] (s.data.toList.take k)) (s[k]'hks) := by
        rw [btake_succ s k hks, fieldsOf_snoc]
      have HS5 := Lib.hid hfs.out.next
      have MK := Lib.hid hfs.out.iter
      obtain ⟨xa, xc, rfl⟩ := owns_shape hfs.out.all
      obtain ⟨ya, yc, rfl⟩ := owns_shape hfs.out.read
      generalize hst : fieldsOf [A, B, C] (s.data.toList.take k) = st at *
      obtain ⟨la, lr, lw⟩ := st
      dsimp only at hlen
      have ck : (wr.iterAt itb s (k + 1)).cell? ⟨lb, la.length, none⟩ = some (.int .i64 ([A, B, C].getD la.length 0)) := by
        refine cell_of_heap HS5.out.l ?_
        obtain h | h | h : la.length = 0 ∨ la.length = 1 ∨ la.length = 2 := by omega
        all_goals (rw [h]; rfl)
      have OA := Lib.hid (HS5.out.all.alloc (.cells #[.int .i64 ([A, B, C].getD la.length 0)] 3))
      have HSN := Lib.hid hsnoc
      have HST := Lib.hid hst
      have hl3 : la.length < 3 := by omega
      have hl3' : (la.length : Int) < 3 := by omega
      have hsz4 : w4.heap.size ≤ (wr.iterAt itb s (k + 1)).heap.size := HS5.out.fr.size
      have HZ4 := Lib.hid hsz4
      generalize wr.iterAt itb s (k + 1) = w5 at *
      generalize hn : [A, B, C].getD la.length 0 = n at *
      have HN := Lib.hid hn
      have hcs : ((s[k]'hks).toNat : Int) = 119 → s[k]'hks = 119 := fun e => by
        apply UInt8.toNat_inj.1
        have : (119 : UInt8).toNat = 119 := rfl
        omega
      have hcr : ((s[k]'hks).toNat : Int) = 114 → s[k]'hks = 114 := fun e => by
        apply UInt8.toNat_inj.1
        have : (114 : UInt8).toNat = 114 := rfl
        omega
      have HCS := Lib.hid hcs
      have HCR := Lib.hid hcr
      generalize hc : ((s[k]'hks).toNat : Int) = c at *
      have HC := Lib.hid hc
      clear hsnoc hst hcs hcr hc hn hsz4
      by_cases h119 : c = 119
      · subst h119
        have HSN2 : Hid (fieldsOf [A, B, C] (s.data.toList.take (k + 1)) = (la ++ [n], lr, n)) := Lib.hid (by rw [HSN.out, HCS.out rfl]; unfold stepF; rw [if_pos rfl]; simp only [HN.out])
        go_wp2_with (at_builtin; (refine wpList_append_at rfl (.tmp 34) _ 28 rfl w4.heap.size 3 (.int .i64 0) 1 8 Try.underlying28 Try.infoInt rfl (by decide) _ la.length _ rfl OA.out 1 [.int .i64 n] (reads_one _ _ _) int_one (by unfold maxLen; omega) (by omega) (by have := HZ4.out; simp; omega) ?_); intro ga gc w6 ho hg hb)
        have HS6 := Lib.hid ((HS5.out.new (.cells #[.int .i64 n] 3)).appA (x' := .slice ga (la.length + 1) gc) (n := n) ho hg hb)
        clear ho hg hb ck
        go_roundw
        case rel => exact ⟨k + 1, by rw [HSN2.out], by omega, by rw [HSN2.out]; exact HS6⟩
        case measure => rw [itLeft_at HS6.out.iter, itLeft_at MK.out]; omega
      by_cases h114 : c = 114
      · subst h114
        have HSN2 : Hid (fieldsOf [A, B, C] (s.data.toList.take (k + 1)) = (la ++ [n], lr ++ [n], lw)) := Lib.hid (by rw [HSN.out, HCR.out rfl]; unfold stepF; rw [if_neg (by decide), if_pos rfl]; simp only [HN.out])
        go_wp2_with (at_builtin; first
          | ((refine wpList_append_at rfl (.tmp 34) _ 28 rfl w4.heap.size 3 (.int .i64 0) 1 8 Try.underlying28 Try.infoInt rfl (by decide) _ la.length _ rfl OA.out 1 [.int .i64 n] (reads_one _ _ _) int_one (by unfold maxLen; omega) (by omega) (by have := HZ4.out; simp; omega) ?_); intro ga gc w6 ho hg hb; go_must (have HS6 := Lib.hid ((HS5.out.new (.cells #[.int .i64 n] 3)).appA (x' := .slice ga (la.length + 1) gc) (n := n) ho hg hb)); go_must (have OR := Lib.hid (HS6.out.read.alloc (.cells #[.int .i64 n] 3))); clear ho hg hb)
          | ((refine wpList_append_at rfl (.tmp 41) _ 28 rfl w4.heap.size 3 (.int .i64 0) 1 8 Try.underlying28 Try.infoInt rfl (by decide) _ lr.length _ rfl OR.out 1 [.int .i64 n] (reads_one _ _ _) int_one (by unfold maxLen; omega) (by omega) (by have := HS6.out.fr.size; simp; omega) ?_); intro ga2 gc2 w7 ho hg hb; go_must (have HS7 := Lib.hid ((HS6.out.new (.cells #[.int .i64 n] 3)).appR (y' := .slice ga2 (lr.length + 1) gc2) (n := n) ho hg hb)); clear ho hg hb))
        go_roundw
        case rel => exact ⟨k + 1, by rw [HSN2.out], by omega, by rw [HSN2.out]; exact HS7⟩
        case measure => rw [itLeft_at HS7.out.iter, itLeft_at MK.out]; omega
      · have HSN2 : Hid (fieldsOf [A, B, C] (s.data.toList.take (k + 1)) = (la, lr, lw)) := Lib.hid (by
          have h1 : ¬ s[k]'hks = 119 := fun e => h119 (by rw [← HC.out, e]; rfl)
          have h2 : ¬ s[k]'hks = 114 := fun e => h114 (by rw [← HC.out, e]; rfl)
          rw [HSN.out]; unfold stepF; rw [if_neg h1, if_neg h2])
        have e1 : (c != 119) = true := by simpa using h119
        have e2 : (c != 114) = true := by simpa using h114
        clear ck h119 h114
        go_wp2_with fail
        go_roundw
        case rel => exact ⟨k + 1, by rw [HSN2.out], by omega, by rw [HSN2.out]; exact HS5⟩
        case measure => rw [itLeft_at HS5.out.iter, itLeft_at MK.out]; omega
    · obtain rfl : k = s.size := by omega
      have hnext : ∀ ty, (Instr.next (.pointer (some ⟨itb, 0, none⟩)) true ty).run Try.prog wr = .ok (.tuple #[.bool false]) wr := fun ty =>
        Lib.run_next_end_at wr itb s s.size ty hfs.out.iter (by omega)
      obtain ⟨xa, xc, rfl⟩ := owns_shape hfs.out.all
      obtain ⟨ya, yc, rfl⟩ := owns_shape hfs.out.read
      have hall : s.data.toList.take s.size = s.data.toList := by rw [← blen, List.take_length]
      have hfs2 := hfs.out
      rw [hall] at hfs2 ⊢
      have HFS := Lib.hid hfs2
      clear hall hlen hfs2 hfs
      go_wp2_with fail
      go_ret3
      refine ⟨_, _, rfl, ?_, owns_base HFS.out.all (fun k hk => ?_), owns_base HFS.out.read (fun k hk => ?_), HFS.out.ap⟩
      · exact R4.out.trans' HFS.out.fr (fun k hk _ => by have := R4.out.size; have := RA.out.size; have := HIT.out; omega)
      · have := (HFS.out.all.lt k hk).1; have := R4.out.size; omega
      · have := (HFS.out.read.lt k hk).1; have := R4.out.size; omega

end Go.Proofs.Ytkgcfllbkjlfcaa
