import Derived.Test.YtajfhgphbcmmhaaLJ
import Derived.Test.YtajfhgphbcmmhaaLH
import Derived.Test.YtajfhgphbcmmhaaNu
set_option linter.unusedSimpArgs false
set_option linter.unusedVariables false
set_option linter.unusedSectionVars false
set_option linter.unnecessarySimpa false
namespace Go.Proofs.Ytajfhgphbcmmhaa
open Go.RowKit

attribute [local go_sem] Program.isFuncB Program.isSliceB

variable {w w' w'' w0 : World}

theorem u8s_nu (l : List Nat) : ∀ u ∈ u8s l, ∃ q : Int, u = .int .u8 q := by
  intro u hu
  simp only [u8s, List.mem_map] at hu
  obtain ⟨n, _, rfl⟩ := hu
  exact ⟨_, rfl⟩
theorem int_nu {z : Int} : ∀ u ∈ [Value.int .u8 z], ∃ q : Int, u = .int .u8 q := by
  intro u hu
  simp only [List.mem_singleton] at hu
  exact ⟨_, hu⟩

/-- where Put's loop stands -/
structure PSN (w wr : World) (it : Nat) (s : ByteArray) (k : Nat) (cs : Array Value) (x : Value) (out : List Nat) : Prop where
  fr : Fr no w wr
  ins : wr.heap[w.heap.size]? = some (.cells cs 35 (0, 0))
  iter : wr.heap[it]? = some (.stringIter s k)
  own : wr.ownsRow (w.heap.size + 1) 5 1 x out.length (u8s out)
  lt : w.heap.size < it
  nu : Nums .u8 wr x
section
variable {wr wr' : World} {it k : Nat} {s : ByteArray} {cs : Array Value} {x x' : Value} {out new : List Nat}
theorem PSN.ps (h : PSN w wr it s k cs x out) : PS w wr it s k cs x out := ⟨h.fr, h.ins, h.iter, h.own, h.lt⟩
theorem PSN.of (h : PS w wr it s k cs x out) (n : Nums .u8 wr x) : PSN w wr it s k cs x out := ⟨h.fr, h.ins, h.iter, h.own, h.lt, n⟩
theorem PSN.next (h : PSN w wr it s k cs x out) : PSN w (wr.iterAt it s (k + 1)) it s (k + 1) cs x out :=
  PSN.of h.ps.next (h.nu.frx (fr_iterAt (Fr.refl (only [it]) _) (by simp)) (fun i hi => (h.own.lt i hi).2) (fun i hi => by simpa using own_it h.own h.iter i hi))
theorem PSN.to (h : PSN w wr it s k cs x out) (r : Fr no wr wr') : PSN w wr' it s k cs x out := PSN.of (h.ps.to r) (h.nu.fr r (fun i hi => (h.own.lt i hi).2))
theorem PSN.app (h : PSN w wr it s k cs x out) (ho : wr'.ownsRow (w.heap.size + 1) 5 1 x' (out.length + new.length) (u8s out ++ u8s new)) (hg : wr.grownBy wr' x.ownBlock) (n : Nums .u8 wr' x') : PSN w wr' it s k cs x' (out ++ new) :=
  PSN.of (h.ps.app ho hg) n
end

set_option maxRecDepth 100000 in
set_option maxHeartbeats 8000000 in
theorem put_goodN (w : World) (o : Nat) (A B C N : Int) (u : Value) (l : List Int) (hu : Reads w u 1 l.length (ints l)) (hfine : Fine o A B C N l 64 4096) :
    Calls Try.prog 16 #[insV o A B C N u] w fun e w' => ∃ v, e = .returned (.tuple #[v, .int .i64 0]) ∧ w'.ownsRow (w.heap.size + 1) 5 1 v (enc o A B C N l).length (u8s (enc o A B C N l)) ∧ Fr no w w' ∧ Nums .u8 w' v := by
  have hl8 : l.length ≤ 8 := by have := hfine.few; omega
  have ho33 : o < 33 := by have := hfine.op.2; omega
  have r0 := (Fr.refl no w).alloc (.cells #[.int .i64 o, .int .i64 A, .int .i64 B, .int .i64 C, .int .i64 N, u] 35)
  have R0 := Lib.hid r0
  have HC := fine_ok (w.alloc (.cells #[.int .i64 o, .int .i64 A, .int .i64 B, .int .i64 C, .int .i64 N, u] 35)) o A B C N u l (hu.fr r0 (by simp)) (by omega)
  rw [(fine_iff _ _ _ _ _ _ _ _).2 hfine] at HC
  have HF := Lib.hid HC
  have HU := Lib.hid hu
  have HI0 := Lib.hid (insObj w o A B C N u)
  have FN := Lib.hid hfine
  have HSH := Lib.hid (fun w => shape_all w o)
  have hok := shape_ok o
  have HOK := Lib.hid hok
  have hsz := hok.size
  have HEN := Lib.hid (show enc o A B C N l = (encSt o A B C N l (shapeI o).data.toList).1 from rfl)
  have HLB := Lib.hid (encSt_len o A B C N l hl8)
  have HARG : Hid (∀ z ∈ l, 0 ≤ z ∧ z < 64) := Lib.hid (fun z hz => by
    have h1 := hfine.all
    rw [List.any_eq_true] at h1
    have h2 : ¬ out1 64 z = true := fun h => h1 ⟨z, List.mem_append_right _ hz, h⟩
    simp [out1] at h2
    omega)
  obtain ⟨ua, uc, rfl⟩ := hu.shape
  clear HC hok hu r0
  generalize shapeI o = s at *
  unfold insV at *
  go_enter Try.func16, Try.ntmps16
  go_wp2_with fail
  refine HF.out.mono ?_
  rintro e w1 ⟨rfl, r1⟩
  have HI1 := Lib.hid (r1.heap HI0.out (by simp))
  have R1 := Lib.hid (R0.out.trans r1)
  have HZ1 := Lib.hid (show w.heap.size < w1.heap.size from (Array.getElem?_eq_some_iff.1 HI1.out).1)
  have r2 := (Fr.refl no w1).alloc (.cells #[.int .u8 o] 5)
  have HI2 := Lib.hid (r2.heap HI1.out (by simp))
  have R2 := Lib.hid (R1.out.trans r2)
  have HN2 := Lib.hid (Nums.made (k := .u8) (w := w1) (e := 5) (cs := #[.int .u8 o]) (n := 1) (c := 1) (by intro x hx; simp at hx; exact ⟨_, hx⟩))
  have HO2 := Lib.hid (owns_base (owns_row w1 [.int .u8 o] 5 (by simp)) (base' := w.heap.size + 1) (fun k hk => by have := HZ1.out; simp [Value.ownBlock] at hk; omega))
  obtain ⟨c0, c1, c2, c3, c4, c5⟩ := cells6 HI1.out
  obtain ⟨d0, d1, d2, d3, d4, d5⟩ := cells6 HI2.out
  clear r1 r2 HI0
  go_wp2_with fail
  refine (HSH.out _).mono ?_
  rintro e w3 ⟨rfl, r3⟩
  clear c0 c1 c2 c3 c4 c5 d0 d1 d2 d3 d4 d5
  have HI3 := Lib.hid (r3.heap HI2.out (by simp))
  have R3 := Lib.hid (R2.out.trans r3)
  have HO3 := Lib.hid (owns_fr HO2.out r3 (by simp))
  have HN3 := Lib.hid (HN2.out.fr r3 (fun k hk => (HO2.out.lt k hk).2))
  have HZ3 := Lib.hid (show w.heap.size < w3.heap.size from (Array.getElem?_eq_some_iff.1 HI3.out).1)
  clear r3
  go_wp2_with fail
  have P0 : PSN w (w3.iter s 0) w3.heap.size s 0 #[.int .i64 o, .int .i64 A, .int .i64 B, .int .i64 C, .int .i64 N, .slice ua l.length uc] (.slice (some ⟨w1.heap.size, 0, none⟩) 1 1) (encSt o A B C N l (s.data.toList.take 0)).1 :=
    ⟨R3.out.alloc _, ((Fr.refl no w3).alloc _).heap HI3.out (by simp), heap_new w3 _, owns_fr HO3.out ((Fr.refl no w3).alloc _) (by simp), HZ3.out, HN3.out.fr ((Fr.refl no w3).alloc _) (fun k hk => (HO3.out.lt k hk).2)⟩
  have HP0 := Lib.hid P0
  clear P0
  generalize w3.iter s 0 = w4 at *
  generalize w3.heap.size = itb at *
  go_loopw [5, 6] (fun x y wr => ∃ k : Nat, k ≤ s.size ∧ y = .int .i64 ((encSt o A B C N l (s.data.toList.take k)).2 : Nat) ∧ Hid (PSN w wr itb s k #[.int .i64 o, .int .i64 A, .int .i64 B, .int .i64 C, .int .i64 N, .slice ua l.length uc] x (encSt o A B C N l (s.data.toList.take k)).1)) (fun _ _ wr => itLeft wr itb)
  case atStart => exact ⟨0, by omega, rfl, HP0⟩
  case round =>
    obtain ⟨k, hk, rfl, hps⟩ := hrel
    obtain ⟨xa, xc, rfl⟩ := owns_shape hps.out.own
    by_cases hks : k < s.size
    · have hnext : ∀ ty, (Instr.next (.pointer (some ⟨itb, 0, none⟩)) true ty).run Try.prog wr = .ok (.tuple #[.bool true, .int .i64 k, .int .i32 (s[k]'hks).toNat]) (wr.iterAt itb s (k + 1)) := fun ty =>
        Lib.run_next_ascii_at wr itb s k ty hps.out.iter hks (HOK.out.ascii k hks)
      have HN := Lib.hid hps.out.next
      have MK := Lib.hid hps.out.iter
      have hlb := (HLB.out k (s.data.toList.take k) (blen_take s k hk))
      have HSN : Hid (encSt o A B C N l (s.data.toList.take (k + 1)) = stepE A B C N l (encSt o A B C N l (s.data.toList.take k)) (s[k]'hks)) := Lib.hid (by rw [btake_succ s k hks, encSt_snoc])
      generalize encSt o A B C N l (s.data.toList.take k) = st at *
      obtain ⟨out, kk⟩ := st
      dsimp only at hlb hps HN ⊢
      obtain ⟨hlo, hlk⟩ := hlb
      have HCI : Hid (∀ d : UInt8, ((s[k]'hks).toNat : Int) = d.toNat → s[k]'hks = d) := Lib.hid (fun d e => UInt8.toNat_inj.1 (by omega))
      clear hps
      by_cases h108 : s[k]'hks = 108
      · have e108 : (((s[k]'hks).toNat : Int) == 108) = true := by rw [h108]; rfl
        have HS2 : Hid (encSt o A B C N l (s.data.toList.take (k + 1)) = (out ++ (l.length :: l.map Int.toNat), kk)) := Lib.hid (by rw [HSN.out]; unfold stepE; rw [if_pos h108])
        clear h108
        generalize wr.iterAt itb s (k + 1) = w5 at *
        have r6 := (Fr.refl no w5).alloc (.cells #[.int .u8 l.length] 5)
        have HP6 := Lib.hid (HN.out.to r6)
        obtain ⟨c0, c1, c2, c3, c4, c5⟩ := cells6 HN.out.ins
        clear r6
        go_upto_region 17 with (at_builtin; (refine wpList_append_nu rfl (.tmp 58) _ 26 rfl (w.heap.size + 1) 5 0 1 Try.underlying26 Try.infoU8 _ out.length _ rfl HP6.out.own 1 [.int .u8 (l.length : Nat)] (reads_one _ _ _) int_one (by unfold maxLen; omega) (by omega) (by have := HP6.out.lt; have := (Array.getElem?_eq_some_iff.1 HP6.out.iter).1; omega) HP6.out.nu int_nu ?_); intro ga gc w6 ho hg hb hnu)
        have HP7 : Hid (PSN w w6 itb s (k + 1) #[.int .i64 o, .int .i64 A, .int .i64 B, .int .i64 C, .int .i64 N, .slice ua l.length uc] (.slice ga (out.length + 1) gc) (out ++ [l.length])) := Lib.hid (HP6.out.app (new := [l.length]) ho hg hnu)
        clear ho hg hb hnu c0 c1 c2 c3 c4 c5
        obtain ⟨wz, hwz⟩ : ∃ x, x = wr := ⟨_, rfl⟩
        subst hwz
        obtain ⟨c0, c1, c2, c3, c4, c5⟩ := cells6 HP7.out.ins
        go_wp2_with fail
        clear c0 c1 c2 c3 c4 c5
        have hoL : out.length + 1 = (out ++ [l.length]).length := by simp
        rw [hoL]
        clear hoL
        have HP8 : Hid (PSN w w6 itb s (k + 1) #[.int .i64 o, .int .i64 A, .int .i64 B, .int .i64 C, .int .i64 N, .slice ua l.length uc] (.slice ga (out ++ [l.length]).length gc) (out ++ [l.length] ++ (l.take 0).map Int.toNat)) := Lib.hid (by simpa using HP7.out)
        have HEQ : Hid (out ++ (l.length :: l.map Int.toNat) = out ++ [l.length] ++ l.map Int.toNat) := Lib.hid (by simp)
        rw [HEQ.out] at HS2
        have hlq : (out ++ [l.length]).length ≤ 40 := by simp; omega
        clear hlo
        generalize out ++ [l.length] = oq at *
        go_loopw [5, 68] (fun x y wr => ∃ j : Nat, j ≤ l.length ∧ y = .int .i64 j ∧ Hid (PSN w wr itb s (k + 1) #[.int .i64 o, .int .i64 A, .int .i64 B, .int .i64 C, .int .i64 N, .slice ua l.length uc] x (oq ++ (l.take j).map Int.toNat))) (fun _ y _ => (l.length - intOf y).toNat)
        case atStart => exact ⟨0, by omega, rfl, HP8⟩
        case round =>
          obtain ⟨j, hj, rfl, hps⟩ := hrel
          obtain ⟨ya, yc, rfl⟩ := owns_shape hps.out.own
          have hlen : (oq ++ (l.take j).map Int.toNat).length = oq.length + j := by simp; omega
          have HLN := Lib.hid hlen
          rw [hlen]
          by_cases hjl : j < l.length
          · have hjl' : (j : Int) < l.length := by omega
            obtain ⟨b, o1, rfl, ci⟩ := reads_int (HU.out.fr hps.out.fr (by simp)) hjl
            have hbd := HARG.out l[j] (List.getElem_mem _)
            have HT : Hid ((l.take (j + 1)).map Int.toNat = (l.take j).map Int.toNat ++ [l[j].toNat]) := Lib.hid (by rw [List.take_succ_eq_append_getElem hjl, List.map_append]; rfl)
            generalize l[j] = z at *
            obtain ⟨zn, rfl⟩ : ∃ zn : Nat, z = zn := ⟨z.toNat, by omega⟩
            have HT2 : Hid ((l.take (j + 1)).map Int.toNat = (l.take j).map Int.toNat ++ [zn]) := Lib.hid (by rw [HT.out]; simp)
            have r9 := (Fr.refl no wr).alloc (.cells #[.int .u8 zn] 5)
            have HP9 := Lib.hid (hps.out.to r9)
            have hz256 : zn < 256 := by omega
            clear r9 hbd HT hlen
            go_wp2_with (at_builtin; (refine wpList_append_nu rfl (.tmp 72) _ 26 rfl (w.heap.size + 1) 5 0 1 Try.underlying26 Try.infoU8 _ (oq.length + j) _ rfl (by have := HP9.out.own; rw [HLN.out] at this; exact this) 1 [.int .u8 (zn : Nat)] (reads_one _ _ _) int_one (by unfold maxLen; omega) (by omega) (by have := HP9.out.lt; have := (Array.getElem?_eq_some_iff.1 HP9.out.iter).1; omega) HP9.out.nu.len int_nu ?_); intro gd ge w8 ho hg hb hnu)
            have HPX : Hid (PSN w w8 itb s (k + 1) #[.int .i64 o, .int .i64 A, .int .i64 B, .int .i64 C, .int .i64 N, .slice (some ⟨b, o1, none⟩) l.length uc] (.slice gd (oq.length + j + 1) ge) (oq ++ (l.take (j + 1)).map Int.toNat)) := Lib.hid (by
              have hps9 := HP9.out
              have := hps9.app (new := [zn]) (x' := .slice gd (oq.length + j + 1) ge) (by rw [HLN.out]; exact ho) (by rw [HLN.out]; exact hg) hnu
              rw [HT2.out, ← List.append_assoc]
              exact this)
            clear ho hg hb hnu ci
            go_roundw
            case rel => exact ⟨j + 1, by omega, by go_num, HPX⟩
            case measure => first | (simp [intOf]; done) | (simp [intOf]; omega)
          · obtain rfl : j = l.length := by omega
            have HF2 : Hid (PSN w wr itb s (k + 1) #[.int .i64 o, .int .i64 A, .int .i64 B, .int .i64 C, .int .i64 N, .slice ua l.length uc] (.slice ya (oq.length + l.length) yc) (oq ++ l.map Int.toNat)) := Lib.hid (by have := hps.out; rw [HLN.out] at this; rw [List.take_length] at this; exact this)
            clear hlen
            go_wp2_with fail
            go_roundw
            case rel => exact ⟨k + 1, by omega, by rw [HS2.out], by rw [HS2.out]; exact HF2⟩
            case measure => rw [itLeft_at HF2.out.iter, itLeft_at MK.out]; omega
      · have e108 : (((s[k]'hks).toNat : Int) == 108) = false := by rw [beq_eq_false_iff_ne]; exact fun e => h108 (HCI.out 108 e)
        have HS2 : Hid (encSt o A B C N l (s.data.toList.take (k + 1)) = (out ++ le (toU (fieldI A B C N (s[k]'hks).toNat kk)) (widthOf (s[k]'hks).toNat), if regB (s[k]'hks).toNat = true then kk + 1 else kk)) := Lib.hid (by rw [HSN.out]; unfold stepE; rw [if_neg h108])
        clear h108
        have hkk3 : kk < 3 := by omega
        have HPL := Lib.hid (fun w1 => place_ok w1 w.heap.size (((s[k]'hks).toNat : Nat) : Int) kk hkk3)
        have HWD := Lib.hid (fun w1 => width_ok w1 (((s[k]'hks).toNat : Nat) : Int))
        have hwn := widthOf_is (((s[k]'hks).toNat : Nat) : Int)
        have hcell : (wr.iterAt itb s (k + 1)).drew.cell? ⟨w.heap.size, placeI (((s[k]'hks).toNat : Nat) : Int) kk, none⟩ = some (.int .i64 (fieldI A B C N (((s[k]'hks).toNat : Nat) : Int) kk)) := by
          refine cell_of_heap (w := (wr.iterAt itb s (k + 1)).drew) HN.out.ins ?_
          unfold placeI fieldI
          cases regB (((s[k]'hks).toNat : Nat) : Int) with
          | false => rfl
          | true =>
            obtain h | h | h : kk = 0 ∨ kk = 1 ∨ kk = 2 := by omega
            all_goals (rw [h]; rfl)
        have HRB : Hid (regB (((s[k]'hks).toNat : Nat) : Int) = ((((s[k]'hks).toNat : Int) == 119) || (((s[k]'hks).toNat : Int) == 114))) := Lib.hid rfl
        generalize placeI (((s[k]'hks).toNat : Nat) : Int) kk = pl at *
        generalize fieldI A B C N (((s[k]'hks).toNat : Nat) : Int) kk = fv at *
        generalize widthOf (((s[k]'hks).toNat : Nat) : Int) = wn at *
        have hu64 : IntKind.u64.wrap fv = ((toU fv : Nat) : Int) := by
          rw [IntKind.wrap_u64]; unfold toU; omega
        have HWP := Lib.hid (fun w1 => wput_ok w1 (toU fv) wn (toU_lt fv) (by omega))
        have HLE : Hid ((le (toU fv) wn).length = wn) := Lib.hid (le_len _ _)
        generalize toU fv = uf at *
        generalize regB (((s[k]'hks).toNat : Nat) : Int) = rb at *
        have HP5 := Lib.hid (HN.out.to ((Fr.refl no _).drew))
        generalize wr.iterAt itb s (k + 1) = w5 at *
        clear HN
        go_wp2_with fail
        refine Lex.region [2, 7, 8] [14] (by kernel_rfl) (by kernel_rfl) ?_
        refine Lex.opens (fun w' => w'.cell? ⟨w.heap.size, pl, none⟩ = some (.int .i64 fv)) (hcell) ?_
        repeat (first
          | (refine Lex.skips (by rfl) ?_; (try simp only [Act.put, List.setIfInBounds_toArray, List.set_cons_zero, List.set_cons_succ]))
          | (refine Lex.quiet (v := ?_) (by rfl) (by rfl) ?_ ?_; rotate_left; (focus (intro w' hS'; go_simp; try rfl)); (try simp only [Act.put, List.setIfInBounds_toArray, List.set_cons_zero, List.set_cons_succ])))
        refine Lex.loud (by rfl) (by rfl) ?_
        intro K' hK'
        go_simp
        refine (HPL.out _).mono ?_
        rintro e w6 ⟨rfl, r6⟩
        have hcell6 := r6.cell hcell (by simp)
        have HP6 := Lib.hid (HP5.out.to r6)
        clear r6
        refine hK' _ _ (hcell6) ?_
        clear hK'
        try simp only [Act.put, List.setIfInBounds_toArray, List.set_cons_zero, List.set_cons_succ]
        repeat (first
          | (refine Lex.skips (by rfl) ?_; (try simp only [Act.put, List.setIfInBounds_toArray, List.set_cons_zero, List.set_cons_succ]))
          | (refine Lex.quiet (v := ?_) (by rfl) (by rfl) ?_ ?_; rotate_left; (focus (intro w' hS'; go_simp; try rfl)); (try simp only [Act.put, List.setIfInBounds_toArray, List.set_cons_zero, List.set_cons_succ])))
        refine Lex.loud (by rfl) (by rfl) ?_
        intro K' hK'
        go_simp
        refine (HWD.out _).mono ?_
        rintro e w' ⟨rfl, rfl⟩
        refine hK' _ _ (hcell6) ?_
        clear hK'
        try simp only [Act.put, List.setIfInBounds_toArray, List.set_cons_zero, List.set_cons_succ]
        repeat (first
          | (refine Lex.skips (by rfl) ?_; (try simp only [Act.put, List.setIfInBounds_toArray, List.set_cons_zero, List.set_cons_succ]))
          | (refine Lex.quiet (v := ?_) (by rfl) (by rfl) ?_ ?_; rotate_left; (focus (intro w' hS'; go_simp; try rfl)); (try simp only [Act.put, List.setIfInBounds_toArray, List.set_cons_zero, List.set_cons_succ])))
        refine Lex.loud (by rfl) (by rfl) ?_
        intro K' hK'
        go_simp
        refine (HWP.out _).mono ?_
        rintro e w7 ⟨bv, rfl, hbo, r7⟩
        have hcell7 := r7.cell hcell6 (by simp)
        have HP7 := Lib.hid (HP6.out.to r7)
        have HBR := Lib.hid (owns_reads hbo)
        obtain ⟨ba, bc, rfl⟩ := owns_shape hbo
        clear r7 hbo
        refine hK' _ _ (hcell7) ?_
        clear hK'
        try simp only [Act.put, List.setIfInBounds_toArray, List.set_cons_zero, List.set_cons_succ]
        repeat (first
          | (refine Lex.skips (by rfl) ?_; (try simp only [Act.put, List.setIfInBounds_toArray, List.set_cons_zero, List.set_cons_succ]))
          | (refine Lex.quiet (v := ?_) (by rfl) (by rfl) ?_ ?_; rotate_left; (focus (intro w' hS'; go_simp; try rfl)); (try simp only [Act.put, List.setIfInBounds_toArray, List.set_cons_zero, List.set_cons_succ])))
        refine Lex.done ?_
        refine Lex.ends ?_
        clear hcell hcell6 hcell7
        cases h119 : (((s[k]'hks).toNat : Int) == 119)
        all_goals cases h114 : (((s[k]'hks).toNat : Int) == 114)
        all_goals
          have hrb := HRB.out
          rw [h119, h114] at hrb
          simp only [Bool.or_false, Bool.or_true, Bool.or_self] at hrb
          subst hrb
          go_wp2_with (at_builtin; (refine wpList_append_nu rfl (.tmp 45) _ 26 rfl (w.heap.size + 1) 5 0 1 Try.underlying26 Try.infoU8 _ out.length _ rfl HP7.out.own wn _ HBR.out (u8s_one _) (by unfold maxLen; omega) (by omega) (by have := HP7.out.lt; have := (Array.getElem?_eq_some_iff.1 HP7.out.iter).1; omega) HP7.out.nu (u8s_nu _) ?_); intro gd ge w8 ho hg hb hnu)
          have HPX : Hid (PSN w w8 itb s (k + 1) #[.int .i64 o, .int .i64 A, .int .i64 B, .int .i64 C, .int .i64 N, .slice ua l.length uc] (.slice gd (out.length + wn) ge) (out ++ le uf wn)) := Lib.hid (HP7.out.app (new := le uf wn) (by rw [HLE.out]; exact ho) hg hnu)
          clear ho hg hb hnu
          go_roundw
          case rel => exact ⟨k + 1, by omega, by rw [HS2.out]; first | rfl | go_num, by rw [HS2.out]; exact HPX⟩
          case measure => rw [itLeft_at HPX.out.iter, itLeft_at MK.out]; omega
    · obtain rfl : k = s.size := by omega
      have hnext : ∀ ty, (Instr.next (.pointer (some ⟨itb, 0, none⟩)) true ty).run Try.prog wr = .ok (.tuple #[.bool false]) wr := fun ty =>
        Lib.run_next_end_at wr itb s s.size ty hps.out.iter (by omega)
      have hall : s.data.toList.take s.size = s.data.toList := by rw [← blen, List.take_length]
      have HQ : Hid (wr.ownsRow (w.heap.size + 1) 5 1 (.slice xa (encSt o A B C N l (s.data.toList.take s.size)).1.length xc) (enc o A B C N l).length (u8s (enc o A B C N l))) := Lib.hid (by have := hps.out.own; rw [HEN.out]; simp only [hall] at this ⊢; exact this)
      have HQN := Lib.hid hps.out.nu
      clear hall
      go_wp2_with fail
      go_ret2
      exact ⟨_, rfl, HQ.out, hps.out.fr, HQN.out⟩

theorem put_anyN (w : World) (i : Ix) (u : Value) (hu : Reads w u 1 i.l.length (ints i.l)) (hl : i.l.length ≤ 100000) :
    Calls Try.prog 16 #[insV i.o i.A i.B i.C i.N u] w fun e w' => ∃ v, e = .returned (.tuple #[v, .int .i64 (ckOf i)]) ∧ w'.ownsRow w.heap.size 5 1 v (encE i).length (u8s (encE i)) ∧ Fr no w w' ∧ Nums .u8 w' v := by
  by_cases h : ckOf i = 0
  · have hf := (fine_iff _ _ _ _ _ _ _ _).1 h
    obtain ⟨o, ho⟩ : ∃ o : Nat, i.o = o := ⟨i.o.toNat, by have := hf.op.1; omega⟩
    have hE : encE i = enc i.o i.A i.B i.C i.N i.l := by unfold encE; rw [if_pos h]
    rw [hE, h, ho]
    rw [ho] at hf
    refine (put_goodN w o i.A i.B i.C i.N u i.l hu hf).mono ?_
    rintro e w' ⟨v, he, h1, h2, h3⟩
    exact ⟨v, he, owns_base h1 (fun k hk => by have := (h1.lt k hk).1; omega), h2, h3⟩
  · have hE : encE i = [] := by unfold encE; rw [if_neg h]
    rw [hE]
    refine (put_bad w i.o i.A i.B i.C i.N u i.l hu hl h).mono ?_
    rintro e w' ⟨he, h2⟩
    exact ⟨_, he, World.ownsRow_nil _ _ _ _, h2, Nums.nil _ _ _ _⟩

set_option maxHeartbeats 4000000 in
theorem join_okN (w : World) (sa : Option Addr) (c : Nat) (is : List Ix) (hin : CodeIn w sa is) (hlen : is.length ≤ 1000) (hargs : ∀ i ∈ is, i.l.length ≤ 1000) :
    Calls Try.prog 12 #[.slice sa is.length c] w fun e w' => ∃ v, e = .returned (.tuple #[v, .int .i64 (joinCk is)]) ∧ w'.ownsRow w.heap.size 5 1 v (joinB is).length (u8s (joinB is)) ∧ Fr no w w' ∧ Nums .u8 w' v := by
  have HIN := Lib.hid hin
  have HAR := Lib.hid hargs
  have HBL := Lib.hid (bytesOf_len)
  clear hin hargs
  go_enter Try.func12, Try.ntmps12
  go_wp2_with fail
  go_loopw [4, 11] (fun x y wr => ∃ k : Nat, k ≤ is.length ∧ y = .int .i64 k ∧ Hid (∀ j (_ : j < k) (h : j < is.length), ckOf is[j] = 0) ∧ Hid (wr.ownsRow w.heap.size 5 1 x (bytesOf (is.take k)).length (u8s (bytesOf (is.take k)))) ∧ Hid (Fr no w wr) ∧ Hid (Nums .u8 wr x)) (fun _ y _ => (is.length - intOf y).toNat)
  case atStart => exact ⟨0, by omega, rfl, Lib.hid (fun j h _ => by omega), Lib.hid (World.ownsRow_nil _ _ _ _), Lib.hid (Fr.refl _ _), Lib.hid (Nums.nil _ _ _ _)⟩
  case round =>
    obtain ⟨k, hk, rfl, hpre, hown, hfr, hnn⟩ := hrel
    obtain ⟨xa, xc, rfl⟩ := owns_shape hown.out
    have hbl := HBL.out (is.take k)
    rw [List.length_take, Nat.min_eq_left hk] at hbl
    by_cases hks : k < is.length
    · have hks' : (k : Int) < is.length := by omega
      obtain ⟨b, of, u, rfl, hi⟩ := HIN.out.fr hfr.out k hks
      obtain ⟨ua, uc, rfl⟩ := hi.args.shape
      obtain ⟨c0, c1, c2, c3, c4, c5⟩ := hi.six
      have HARG := Lib.hid hi.args
      have hal := HAR.out is[k] (List.getElem_mem _)
      have HSN : Hid (bytesOf (is.take (k + 1)) = bytesOf (is.take k) ++ encE is[k]) := Lib.hid (by rw [List.take_succ_eq_append_getElem hks, bytesOf_snoc])
      have hel := encE_len is[k]
      have HPP := Lib.hid (fun w1 (h : Fr no wr w1) => put_anyN w1 is[k] _ (hi.args.fr h (by simp)) (by omega))
      have HBAD : Hid (ckOf is[k] ≠ 0 → joinCk is = ckOf is[k] ∧ joinB is = []) := Lib.hid (fun h => by
        have := joinCk_bad is k hks hpre.out h
        refine ⟨this, ?_⟩
        unfold joinB
        rw [if_neg (by rw [this]; exact h)])
      have HPRE : Hid (ckOf is[k] = 0 → ∀ j (_ : j < k + 1) (h : j < is.length), ckOf is[j] = 0) := Lib.hid (fun h0 j hj h => by
        by_cases he : j = k
        · subst he; exact h0
        · exact hpre.out j (by omega) h)
      generalize ckOf is[k] = ck at *
      generalize encE is[k] = en at *
      generalize is[k] = ix at *
      clear hi
      obtain ⟨io, iA, iB, iC, iN, il⟩ := ix
      dsimp only at c0 c1 c2 c3 c4 c5 hal HARG HPP
      unfold insV at HPP
      generalize bytesOf (is.take k) = bs at *
      have r5 := (Fr.refl no wr).alloc (.cells #[.int .i64 io, .int .i64 iA, .int .i64 iB, .int .i64 iC, .int .i64 iN, .slice ua il.length uc] 35)
      have R5 := Lib.hid (hfr.out.trans r5)
      have HO5 := Lib.hid (owns_fr hown.out r5 (by simp))
      have HN5 := Lib.hid (hnn.out.fr r5 (fun k hk => (hown.out.lt k hk).2))
      have HP5 := Lib.hid (HPP.out _ r5)
      clear r5
      by_cases hck : ck = 0
      · have e1 : (ck != 0) = false := by simpa using hck
        have HPR := Lib.hid (HPRE.out hck)
        clear hck
        go_wp2_with fail
        refine (HP5.out).mono ?_
        rintro e w6 ⟨v, rfl, hv, r6, -⟩
        obtain ⟨va, vc, rfl⟩ := owns_shape hv
        have R6 := Lib.hid (R5.out.trans r6)
        have HO6 := Lib.hid (owns_fr HO5.out r6 (by simp))
        have HN6 := Lib.hid (HN5.out.fr r6 (fun k hk => (HO5.out.lt k hk).2))
        have HV6 := Lib.hid (owns_reads hv)
        clear r6 hv c0 c1 c2 c3 c4 c5
        go_wp2_with (at_builtin; (refine wpList_append_nu rfl (.tmp 23) _ 26 rfl w.heap.size 5 0 1 Try.underlying26 Try.infoU8 _ bs.length _ rfl HO6.out en.length _ HV6.out (u8s_one _) (by unfold maxLen; omega) (by omega) R6.out.size HN6.out (u8s_nu _) ?_); intro ga gc w7 ho hg hb hnu)
        have HO7 : Hid (w7.ownsRow w.heap.size 5 1 (.slice ga (bs.length + en.length) gc) (bytesOf (is.take (k + 1))).length (u8s (bytesOf (is.take (k + 1))))) := Lib.hid (by rw [HSN.out, List.length_append, show u8s (bs ++ en) = u8s bs ++ u8s en from by simp [u8s]]; exact ho)
        have R7 := Lib.hid (R6.out.trans' ((Fr.refl (fun k => (Value.slice xa bs.length xc).ownBlock = some k) _).grown hg (fun k hk => .inl hk)) (fun k hk _ => (hown.out.lt k hk).1))
        have HN7 := Lib.hid hnu
        have HN8 : Hid (Nums .u8 w7 (.slice ga (bs.length + en.length) gc)) := HN7
        clear ho hg hb hnu HN7
        go_roundw
        case rel => exact ⟨k + 1, by omega, by go_num, HPR, HO7, R7, HN8⟩
        case measure => first | (simp [intOf]; done) | (simp [intOf]; omega)
      · have e1 : (ck != 0) = true := by simpa using hck
        have HB := Lib.hid (HBAD.out hck)
        clear hck
        go_wp2_with fail
        refine (HP5.out).mono ?_
        rintro e w6 ⟨v, rfl, hv, r6, -⟩
        obtain ⟨va, vc, rfl⟩ := owns_shape hv
        have R6 := Lib.hid (R5.out.trans r6)
        clear r6 hv c0 c1 c2 c3 c4 c5
        go_wp2_with fail
        go_ret2
        exact ⟨_, by rw [HB.out.1]; rfl, by rw [HB.out.2]; exact World.ownsRow_nil _ _ _ _, R6.out, Nums.nil _ _ _ _⟩
    · obtain rfl : k = is.length := by omega
      have HJ : Hid (joinCk is = if 4096 < (bytesOf is).length then 3 else 0) := Lib.hid (joinCk_good is (fun i hi => by
        obtain ⟨j, hj, rfl⟩ := List.getElem_of_mem hi
        exact hpre.out j hj hj))
      have HJB : Hid (joinB is = if joinCk is = 0 then bytesOf is else []) := Lib.hid rfl
      have hown2 := hown.out
      rw [List.take_length] at hown2 ⊢
      have HO2 := Lib.hid hown2
      clear hown2 hown hbl
      generalize bytesOf is = bs at *
      by_cases h4 : 4096 < bs.length
      · have h4' : (4096 : Int) < bs.length := by omega
        have HJ2 : Hid (joinCk is = 3 ∧ joinB is = []) := Lib.hid (by
          have : joinCk is = 3 := by rw [HJ.out, if_pos h4]
          exact ⟨this, by rw [HJB.out, if_neg (by rw [this]; decide)]⟩)
        go_wp2_with fail
        go_ret2
        exact ⟨_, by rw [HJ2.out.1]; rfl, by rw [HJ2.out.2]; exact World.ownsRow_nil _ _ _ _, hfr.out, Nums.nil _ _ _ _⟩
      · have h4' : ¬ (4096 : Int) < bs.length := by omega
        have HJ2 : Hid (joinCk is = 0 ∧ joinB is = bs) := Lib.hid (by
          have : joinCk is = 0 := by rw [HJ.out, if_neg h4]
          exact ⟨this, by rw [HJB.out, if_pos this]⟩)
        go_wp2_with fail
        go_ret2
        exact ⟨_, by rw [HJ2.out.1]; rfl, by rw [HJ2.out.2]; exact HO2.out, hfr.out, hnn.out.len⟩


/-- bytes that are written over, their spare room too: only their own block turns -/
theorem overbytes_ok (w : World) (B : Nat) (v : Value) (n : Nat) (xs : List Value) (ho : w.ownsRow B 5 1 v n xs) (hn : Nums .u8 w v) :
    Calls Try.prog 15 #[v] w fun e w' => e = .returned (.tuple #[]) ∧ Fr (fun k => v.ownBlock = some k) w w' := by
  rcases ho.2 with ⟨rfl, rfl⟩ | ⟨g, cap, cur, rfl, hb, hg, h1, h2, h3, h4⟩
  · clear ho hn
    go_enter Try.func15, Try.ntmps15
    go_wp2_with fail
    go_loopw [3] (fun x wr => x = .int .i64 0 ∧ wr = w) (fun _ _ => 0)
    case atStart => exact ⟨rfl, rfl⟩
    case round =>
      obtain ⟨rfl, rfl⟩ := hrel
      go_wp2_with fail
      exact ⟨rfl, .tuple #[], by simp [results], rfl, Fr.refl _ _⟩
  · have hc : cap < 9223372036854775808 := by have := h2; unfold maxLen at this; omega
    have hn' : n ≤ cap := h1
    have hz : cur.size = cap := by omega
    have HG0 : Hid (∃ cur : Array Value, w.heap[g]? = some (.cells cur 5 (0, 0)) ∧ cur.size = cap ∧ ∀ x ∈ cur.toList, ∃ q : Int, x = .int .u8 q) := Lib.hid ⟨cur, hg, hz, hn g cur _ _ rfl hg⟩
    clear ho hb hg h1 h2 h3 h4 hz hn
    go_enter Try.func15, Try.ntmps15
    go_wp2_with fail
    go_loopw [3] (fun x wr => ∃ k : Nat, k ≤ cap ∧ x = .int .i64 k ∧ Hid (∃ cur : Array Value, wr.heap[g]? = some (.cells cur 5 (0, 0)) ∧ cur.size = cap ∧ ∀ x ∈ cur.toList, ∃ q : Int, x = .int .u8 q) ∧ Hid (Fr (only [g]) w wr)) (fun x _ => (cap - intOf x).toNat)
    case atStart => exact ⟨0, by omega, rfl, HG0, Lib.hid (Fr.refl _ _)⟩
    case round =>
      obtain ⟨k, hk, rfl, hg, hf⟩ := hrel
      by_cases hkc : k < cap
      · have hkc' : (k : Int) < cap := by omega
        obtain ⟨cur, h1, h2, h3⟩ := hg.out
        obtain ⟨q, hq⟩ := h3 (cur[k]'(by omega)) (by simp)
        have c1 : wr.cell? ⟨g, 0 + k, none⟩ = some (.int .u8 q) := by rw [← hq]; exact cell_of_heap h1 (by rw [Nat.zero_add]; simp)
        rw [Nat.zero_add] at c1
        have f1 : wr.frozen? ⟨g, k, none⟩ = false := frozen_of_heap h1
        have HN := Lib.hid (fun z : Int => (⟨_, heap_setCell (v := .int .u8 z) h1, by simpa using h2, by
          intro x hx
          rw [Array.toList_setIfInBounds] at hx
          rcases List.mem_or_eq_of_mem_set hx with hx | hx
          · exact h3 x hx
          · exact ⟨z, hx⟩⟩ : ∃ cur' : Array Value, (wr.setCell ⟨g, k, none⟩ (.int .u8 z)).heap[g]? = some (.cells cur' 5 (0, 0)) ∧ cur'.size = cap ∧ ∀ x ∈ cur'.toList, ∃ q : Int, x = .int .u8 q))
        have HF := Lib.hid (fun z : Int => hf.out.setCell ⟨g, k, none⟩ (.int .u8 z) (.inl (by simp)))
        clear h1 h2 h3 hq hg hf
        go_wp2_with fail
        go_roundw
        case rel => exact ⟨k + 1, by omega, by go_num, Lib.hid (HN.out _), Lib.hid (HF.out _)⟩
        case measure => first | (simp [intOf]; done) | (simp [intOf]; omega)
      · obtain rfl : k = cap := by omega
        go_wp2_with fail
        exact ⟨rfl, .tuple #[], by simp [results], rfl, hf.out.mono (fun i hi => by simp at hi; simp [Value.ownBlock, hi])⟩

end Go.Proofs.Ytajfhgphbcmmhaa
