import Derived.Test.YtdklbmggljakkaaD18
set_option linter.unusedSimpArgs false
set_option linter.unusedVariables false
set_option linter.unusedSectionVars false
set_option linter.unnecessarySimpa false
namespace Go.Proofs.Ytdklbmggljakkaa
open Go.RowKit

attribute [local go_sem] Program.isFuncB Program.isSliceB

variable {w w' w'' w0 : World}

theorem Lent.blk {base : Nat} {v : Value} {bs : List Nat} (h : Lent w base v bs) : ∀ k, v.ownBlock = some k → base ≤ k ∧ k < w.heap.size := fun k hk => by
  obtain ⟨g, cap, rfl, hb, -, cur, hg, -⟩ := h.owned
  cases hk
  exact ⟨hb, (Array.getElem?_eq_some_iff.1 hg).1⟩

set_option maxRecDepth 100000 in
set_option maxHeartbeats 16000000 in
theorem deedsscript_ok (w : World) (v0 : Value) (bs : List Nat) (hb : Reads w v0 1 bs.length (u8s bs)) (hk : ∀ x ∈ bs, x < 256) (hz : bs.length ≤ 140737488351232) (ho : ∀ k, v0.ownBlock = some k → k < w.heap.size)
    (v1 : Value) (ps : List Bool) (hp : Reads w v1 1 ps.length (ps.map .bool)) (hpm : ps.length ≤ 140737488351232)
    (v2 : Value) (ls : List Int) (hl : Reads w v2 1 ls.length (ls.map (.int .i64))) (hlw : ∀ z ∈ ls, -9223372036854775808 ≤ z ∧ z < 9223372036854775808) (hlm : ls.length ≤ 140737488351232) :
    Calls Try.prog 3 #[v0, v1, v2] w fun e w' => e = .returned (.bool true) ∧ Fr no w w' := by
  obtain ⟨va, vc, rfl⟩ := hb.shape
  obtain ⟨pa, pc, rfl⟩ := hp.shape
  obtain ⟨la, lc, rfl⟩ := hl.shape
  have LT := Lib.hid (lentbytes_big w _ bs hb hz)
  have HB := Lib.hid hb
  have HP := Lib.hid hp
  have HL := Lib.hid hl
  have HLW := Lib.hid hlw
  have HO := Lib.hid ho
  have HK := Lib.hid hk
  clear hb hp hl hlw ho hk
  go_enter Try.func3, Try.ntmps3
  go_wp2_with fail
  refine LT.out.mono ?_
  rintro e w1 ⟨x, rfl, hx, r1⟩
  have HX := Lib.hid hx
  have HXB := Lib.hid hx.blk
  have R1 := Lib.hid r1
  have NB := Lib.hid (new_big w1 x bs hx.reads.1 HK.out hz)
  clear hx r1 LT
  go_wp2_with fail
  refine NB.out.mono ?_
  rintro e w2 ⟨t, iv, rfl, hT, r2⟩
  have rr := (Fr.refl no w2).alloc (.cells #[.slice va bs.length vc, .int .i64 0, .slice none 0 0] 31)
  have HD3 : Hid (Duo (w2.alloc (.cells #[.slice va bs.length vc, .int .i64 0, .slice none 0 0] 31)) w1.heap.size t w2.heap.size bs 0 [] 0 [] iv (.slice none 0 0) (.slice va bs.length vc) (.slice none 0 0)) := Lib.hid ⟨hT.fr rr, ⟨heap_new w2 _, HB.out.fr (R1.out.trans (r2.trans rr)) (by simp), HK.out, fun k hk => Nat.lt_of_lt_of_le (HO.out k hk) R1.out.size, World.ownsRow_nil _ _ _ _, Nat.zero_le _, r2.size⟩, by simp [Value.ownBlock]⟩
  have HX3 := Lib.hid ((HX.out.fr r2).fr rr)
  have R3 := Lib.hid (R1.out.trans (r2.trans rr))
  have hB : w.heap.size ≤ w1.heap.size := R1.out.size
  clear hT r2 rr NB HX R1
  by_cases h2000 : bs.length ≤ 2000
  case neg =>
    have h1 : (2000 : Int) < bs.length := by omega
    go_wp2_with fail
    refine (awake_ok _).mono ?_
    rintro e w4 ⟨rfl, q4⟩
    go_wp2_with fail
    go_ret
    exact ⟨rfl, R3.out.trans q4⟩
  have h1 : ¬ (2000 : Int) < bs.length := by omega
  by_cases h200 : ls.length ≤ 200
  case neg =>
    have h2 : (200 : Int) < ls.length := by omega
    go_wp2_with fail
    refine (awake_ok _).mono ?_
    rintro e w4 ⟨rfl, q4⟩
    go_wp2_with fail
    go_ret
    exact ⟨rfl, R3.out.trans q4⟩
  have h2 : ¬ (200 : Int) < ls.length := by omega
  have KB := Lib.hid (keptbytes_ok _ _ _ _ bs HX3.out (HB.out.fr R3.out (by simp)) HK.out (by omega))
  go_wp2_with fail
  generalize w2.alloc (.cells #[.slice va bs.length vc, .int .i64 0, .slice none 0 0] 31) = w3 at *
  generalize w2.heap.size = r at *
  generalize w1.heap.size = B at *
  refine KB.out.mono ?_
  rintro e w4 ⟨rfl, q4⟩
  have HD4 := Lib.hid (HD3.out.fr q4)
  have HX4 := Lib.hid (HX3.out.fr q4)
  have R4 := Lib.hid (R3.out.trans q4)
  clear q4 KB
  go_wp2_with fail
  refine (overlent_ok w4 _ _ bs HX4.out (by omega)).mono ?_
  rintro e w5 ⟨rfl, q5⟩
  have HD5 := Lib.hid (HD4.out.lent q5 (fun k hk => ⟨(HXB.out k hk).2, fun j hj => Nat.lt_of_lt_of_le (HO.out j hj) (HXB.out k hk).1⟩))
  have R5 := Lib.hid (R4.out.trans' q5 (fun i hi _ => (HXB.out i hi).1))
  clear q5 HD3 HD4 HX3 HX4 R3 R4 HXB
  go_wp2_with fail
  go_loopw [10] (fun x wr => ∃ (k a : Nat) (dl : List Dd) (lv mv : Value), k ≤ ls.length ∧ x = .int .i64 k ∧ Hid (Duo wr B t r bs a dl a dl iv lv (.slice va bs.length vc) mv) ∧ Hid (dl.length = k) ∧ Hid (Fr no w wr)) (fun x _ => (ls.length - intOf x).toNat)
  case atStart => exact ⟨0, 0, [], _, _, by omega, rfl, HD5, Lib.hid rfl, R5⟩
  case round =>
    clear HD5 R5
    obtain ⟨k, a, dl, lv, mv, hk, rfl, hd, hdl, hf⟩ := hrel
    by_cases hks : k < ls.length
    · have hks' : (k : Int) < ls.length := by omega
      obtain ⟨lb, lo, rfl, -⟩ := HL.out.at1 (k := k) (u := .int .i64 ls[k]) (by simp [hks])
      have CL := Lib.hid (fun (w' : World) (q : Fr no w w') => show w'.cell? ⟨lb, lo + k, none⟩ = some (.int .i64 ls[k]) from by
        obtain ⟨b, o, e, c⟩ := (HL.out.fr q (by simp)).at1 (k := k) (u := .int .i64 ls[k]) (by simp [hks])
        cases e
        exact c)
      have HW := Lib.hid (HLW.out ls[k] (List.getElem_mem hks))
      generalize ls[k] = z at CL HW
      have HLT := Lib.hid (show dl.length < 100000 from by have := hdl.out; omega)
      by_cases hkp : k < ps.length
      case neg =>
        have hkp' : ¬ (k : Int) < ps.length := by omega
        go_wp2_with fail
        refine (get_ok wr hd.out.tape HLT.out (by omega) hd.out.room).mono ?_
        rintro e w6 ⟨lv2, rfl, hT, q6, n6⟩
        have HD6 := Lib.hid (hd.out.goT hT q6 n6)
        have R6 := Lib.hid (hf.out.trans' q6 (fun i hi _ => Nat.le_trans hB (hd.out.tape.new i hi)))
        clear hT q6 n6
        go_wp2_with fail
        refine (refget_ok w6 HD6.out.ref HLT.out (by omega) HD6.out.room).mono ?_
        rintro e w7 ⟨mv2, rfl, hR, q7, n7⟩
        have HE : Hid (∃ a2 dl2, dl2.length = k + 1 ∧ Duo w7 B t r bs a2 dl2 a2 dl2 iv lv2 (.slice va bs.length vc) mv2) := Lib.hid ⟨_, _, by rw [List.length_append, hdl.out]; rfl, HD6.out.goR hR q7 n7⟩
        have R7 := Lib.hid (R6.out.trans' q7 (fun i hi _ => Nat.le_trans hB (HD6.out.ref.new i hi)))
        clear hR q7 n7
        obtain ⟨a2, dl2, hl2, hd2⟩ := HE.out
        have HL2 := Lib.hid hl2
        have hl2' : dl2.length ≤ 200 := by omega
        clear hl2
        generalize getB bs a = gb at *
        go_wp2_with fail
        refine (deeds_ok w7 hd2.tape (by omega)).mono ?_
        rintro e w8 ⟨x8, rfl, hx, q8⟩
        obtain ⟨xa, xc, rfl⟩ := owns_shape hx
        have HX8 := Lib.hid hx
        have HD8 := Lib.hid (hd2.fr q8)
        have Q8 := Lib.hid q8
        clear hx q8
        obtain ⟨ma, mc, rfl⟩ := owns_shape HD8.out.ref.out
        have rd8 := (Fr.refl no w8).drew
        obtain ⟨y0, y1, y2⟩ := cells3 (rd8.heap HD8.out.ref.obj (by simp))
        have hle := hd2.tape.le
        have hsub : IntKind.i64.wrap ((bs.length : Int) - (a2 : Int)) = (bs.length : Int) - (a2 : Int) := by rw [IntKind.wrap_i64]; omega
        have SD := samedeeds_ok w8.drew _ _ dl2 dl2 (owns_reads (owns_fr HX8.out rd8 (by simp))) (owns_reads (HD8.out.fr rd8).ref.out) (by omega) (by omega)
        rw [show decide (dl2 = dl2) = true from decide_eq_true rfl] at SD
        have SDH := Lib.hid SD
        clear SD
        go_wp2_with fail
        refine Lex.region [5, 8] [22] (by kernel_rfl) (by kernel_rfl) ?_
        refine Lex.opens (fun w' => w'.cell? ⟨r, 0, none⟩ = some (.slice va bs.length vc) ∧ w'.cell? ⟨r, 1, none⟩ = some (.int .i64 a2) ∧ w'.cell? ⟨r, 2, none⟩ = some (.slice ma dl2.length mc)) (⟨y0, y1, y2⟩) ?_
        repeat (first
          | (refine Lex.skips (by rfl) ?_; (try simp only [Act.put, List.setIfInBounds_toArray, List.set_cons_zero, List.set_cons_succ]))
          | (refine Lex.quiet (v := ?_) (by rfl) (by rfl) ?_ ?_; rotate_left; (focus (intro w' hS'; go_simp; try rfl)); (try simp only [Act.put, List.setIfInBounds_toArray, List.set_cons_zero, List.set_cons_succ])))
        refine Lex.loud (by rfl) (by rfl) ?_
        intro K' hK'
        go_simp
        refine SDH.out.mono ?_
        rintro e w9 ⟨rfl, q9⟩
        have HD9 := Lib.hid ((HD8.out.fr rd8).fr q9)
        have Q9 := Lib.hid (Q8.out.trans (rd8.trans q9))
        have HX9 := Lib.hid (owns_fr HX8.out (rd8.trans q9) (by simp))
        refine hK' _ _ (⟨q9.cell y0 (by simp), q9.cell y1 (by simp), q9.cell y2 (by simp)⟩) ?_
        clear hK'
        try simp only [Act.put, List.setIfInBounds_toArray, List.set_cons_zero, List.set_cons_succ]
        clear y0 y1 y2 q9 rd8
        obtain ⟨y0, y1, y2⟩ := cells3 HD9.out.ref.obj
        repeat (first
          | (refine Lex.skips (by rfl) ?_; (try simp only [Act.put, List.setIfInBounds_toArray, List.set_cons_zero, List.set_cons_succ]))
          | (refine Lex.quiet (v := ?_) (by rfl) (by rfl) ?_ ?_; rotate_left; (focus (intro w' hS'; go_simp; try rfl)); (try simp only [Act.put, List.setIfInBounds_toArray, List.set_cons_zero, List.set_cons_succ])))
        refine Lex.loud (by rfl) (by rfl) ?_
        intro K' hK'
        go_simp
        refine (left_ok w9 HD9.out.tape (by omega)).mono ?_
        rintro e w10 ⟨rfl, q10⟩
        have HD10 := Lib.hid (HD9.out.fr q10)
        have Q10 := Lib.hid (Q9.out.trans q10)
        have HX10 := Lib.hid (owns_fr HX9.out q10 (by simp))
        refine hK' _ _ (⟨q10.cell y0 (by simp), q10.cell y1 (by simp), q10.cell y2 (by simp)⟩) ?_
        clear hK'
        try simp only [Act.put, List.setIfInBounds_toArray, List.set_cons_zero, List.set_cons_succ]
        clear y0 y1 y2 q10
        repeat (first
          | (refine Lex.skips (by rfl) ?_; (try simp only [Act.put, List.setIfInBounds_toArray, List.set_cons_zero, List.set_cons_succ]))
          | (refine Lex.quiet (v := ?_) (by rfl) (by rfl) ?_ ?_; rotate_left; (focus (intro w' hS'; go_simp; try rfl)); (try simp only [Act.put, List.setIfInBounds_toArray, List.set_cons_zero, List.set_cons_succ])))
        refine Lex.done ?_
        refine Lex.ends ?_
        go_wp2_with fail
        refine (overdeeds_ok w10 _ _ _ _ HX10.out).mono ?_
        rintro e w11 ⟨rfl, q11⟩
        have Q11 := Lib.hid (Q10.out.trans' q11 (fun i hi _ => (HX8.out.lt i hi).1))
        have HD11 := Lib.hid (hd2.fr Q11.out)
        have R11 := Lib.hid (R7.out.trans Q11.out)
        clear q11 HD8 HD9 HD10 HX8 HX9 HX10 Q8 Q9 Q10
        have rd11 := (Fr.refl no w11).drew
        have HD12 := Lib.hid (HD11.out.fr rd11)
        obtain ⟨-, -, y2⟩ := cells3 HD12.out.ref.obj
        go_wp2_with fail
        refine Lex.region [4, 9] [12] (by kernel_rfl) (by kernel_rfl) ?_
        refine Lex.opens (fun w' => w'.cell? ⟨r, 2, none⟩ = some (.slice ma dl2.length mc)) (y2) ?_
        repeat (first
          | (refine Lex.skips (by rfl) ?_; (try simp only [Act.put, List.setIfInBounds_toArray, List.set_cons_zero, List.set_cons_succ]))
          | (refine Lex.quiet (v := ?_) (by rfl) (by rfl) ?_ ?_; rotate_left; (focus (intro w' hS'; go_simp; try rfl)); (try simp only [Act.put, List.setIfInBounds_toArray, List.set_cons_zero, List.set_cons_succ])))
        refine Lex.loud (by rfl) (by rfl) ?_
        intro K' hK'
        go_simp
        refine (deeds_ok w11.drew HD12.out.tape (by omega)).mono ?_
        rintro e w13 ⟨x13, rfl, hx, q13⟩
        obtain ⟨xb, xd, rfl⟩ := owns_shape hx
        have HX13 := Lib.hid hx
        have HD13 := Lib.hid (HD12.out.fr q13)
        have R13 := Lib.hid ((R11.out.trans rd11).trans q13)
        refine hK' _ _ (q13.cell y2 (by simp)) ?_
        clear hK'
        try simp only [Act.put, List.setIfInBounds_toArray, List.set_cons_zero, List.set_cons_succ]
        clear y2 hx q13 rd11
        obtain ⟨-, -, y2⟩ := cells3 HD13.out.ref.obj
        have SD := samedeeds_ok w13 _ _ dl2 dl2 (owns_reads HX13.out) (owns_reads HD13.out.ref.out) (by omega) (by omega)
        rw [show decide (dl2 = dl2) = true from decide_eq_true rfl] at SD
        have SDI := Lib.hid SD
        clear SD
        repeat (first
          | (refine Lex.skips (by rfl) ?_; (try simp only [Act.put, List.setIfInBounds_toArray, List.set_cons_zero, List.set_cons_succ]))
          | (refine Lex.quiet (v := ?_) (by rfl) (by rfl) ?_ ?_; rotate_left; (focus (intro w' hS'; go_simp; try rfl)); (try simp only [Act.put, List.setIfInBounds_toArray, List.set_cons_zero, List.set_cons_succ])))
        refine Lex.loud (by rfl) (by rfl) ?_
        intro K' hK'
        go_simp
        refine SDI.out.mono ?_
        rintro e w14 ⟨rfl, q14⟩
        have HD14 := Lib.hid (HD13.out.fr q14)
        have R14 := Lib.hid (R13.out.trans q14)
        refine hK' _ _ (q14.cell y2 (by simp)) ?_
        clear hK'
        try simp only [Act.put, List.setIfInBounds_toArray, List.set_cons_zero, List.set_cons_succ]
        clear y2 q14
        repeat (first
          | (refine Lex.skips (by rfl) ?_; (try simp only [Act.put, List.setIfInBounds_toArray, List.set_cons_zero, List.set_cons_succ]))
          | (refine Lex.quiet (v := ?_) (by rfl) (by rfl) ?_ ?_; rotate_left; (focus (intro w' hS'; go_simp; try rfl)); (try simp only [Act.put, List.setIfInBounds_toArray, List.set_cons_zero, List.set_cons_succ])))
        refine Lex.done ?_
        refine Lex.ends ?_
        go_wp2_with fail
        go_roundw
        case rel => exact ⟨k + 1, a2, dl2, lv2, _, by omega, by go_num, HD14, HL2, R14⟩
        case measure => first | (simp [intOf]; done) | (simp [intOf]; omega)

      have hkp' : (k : Int) < ps.length := by omega
      obtain ⟨pb, po, rfl, -⟩ := HP.out.at1 (k := k) (u := .bool ps[k]) (by simp [hkp])
      obtain ⟨pb2, po2, he, cp⟩ := (HP.out.fr hf.out (by simp)).at1 (k := k) (u := .bool ps[k]) (by simp [hkp])
      cases he
      generalize ps[k] = q at cp
      cases q with
      | true =>
        go_wp2_with fail
        have rd := (Fr.refl no wr).drew
        have c0 := CL.out _ (hf.out.trans rd)
        refine Lex.region [5, 11] [13] (by kernel_rfl) (by kernel_rfl) ?_
        refine Lex.opens (fun w' => w'.cell? ⟨lb, lo + k, none⟩ = some (.int .i64 z)) (c0) ?_
        repeat (first
          | (refine Lex.skips (by rfl) ?_; (try simp only [Act.put, List.setIfInBounds_toArray, List.set_cons_zero, List.set_cons_succ]))
          | (refine Lex.quiet (v := ?_) (by rfl) (by rfl) ?_ ?_; rotate_left; (focus (intro w' hS'; go_simp; try rfl)); (try simp only [Act.put, List.setIfInBounds_toArray, List.set_cons_zero, List.set_cons_succ])))
        refine Lex.loud (by rfl) (by rfl) ?_
        intro K' hK'
        go_simp
        refine (put_ok wr.drew z (hd.out.fr rd).tape HLT.out (hd.out.fr rd).room).mono ?_
        rintro e w6 ⟨lv2, rfl, hT, q6, n6⟩
        have HD6 := Lib.hid ((hd.out.fr rd).goT hT q6 n6)
        have R6 := Lib.hid ((hf.out.trans rd).trans' q6 (fun i hi _ => Nat.le_trans hB ((hd.out.fr rd).tape.new i hi)))
        clear hT q6 n6 c0
        have c0 := CL.out _ R6.out
        refine hK' _ _ (c0) ?_
        clear hK'
        try simp only [Act.put, List.setIfInBounds_toArray, List.set_cons_zero, List.set_cons_succ]
        repeat (first
          | (refine Lex.skips (by rfl) ?_; (try simp only [Act.put, List.setIfInBounds_toArray, List.set_cons_zero, List.set_cons_succ]))
          | (refine Lex.quiet (v := ?_) (by rfl) (by rfl) ?_ ?_; rotate_left; (focus (intro w' hS'; go_simp; try rfl)); (try simp only [Act.put, List.setIfInBounds_toArray, List.set_cons_zero, List.set_cons_succ])))
        refine Lex.loud (by rfl) (by rfl) ?_
        intro K' hK'
        go_simp
        refine (refput_ok w6 z HD6.out.ref HLT.out HD6.out.room HW.out).mono ?_
        rintro e w7 ⟨mv2, rfl, hR, q7, n7⟩
        have HE : Hid (∃ a2 dl2, dl2.length = k + 1 ∧ Duo w7 B t r bs a2 dl2 a2 dl2 iv lv2 (.slice va bs.length vc) mv2) := Lib.hid ⟨_, _, by rw [List.length_append, hdl.out]; rfl, HD6.out.goR hR q7 n7⟩
        have R7 := Lib.hid (R6.out.trans' q7 (fun i hi _ => Nat.le_trans hB (HD6.out.ref.new i hi)))
        clear hR q7 n7 c0
        have c0 := CL.out _ R7.out
        refine hK' _ _ (c0) ?_
        clear hK'
        try simp only [Act.put, List.setIfInBounds_toArray, List.set_cons_zero, List.set_cons_succ]
        repeat (first
          | (refine Lex.skips (by rfl) ?_; (try simp only [Act.put, List.setIfInBounds_toArray, List.set_cons_zero, List.set_cons_succ]))
          | (refine Lex.quiet (v := ?_) (by rfl) (by rfl) ?_ ?_; rotate_left; (focus (intro w' hS'; go_simp; try rfl)); (try simp only [Act.put, List.setIfInBounds_toArray, List.set_cons_zero, List.set_cons_succ])))
        refine Lex.done ?_
        refine Lex.ends ?_
        clear c0 rd
        obtain ⟨a2, dl2, hl2, hd2⟩ := HE.out
        have HL2 := Lib.hid hl2
        have hl2' : dl2.length ≤ 200 := by omega
        clear hl2
        go_wp2_with fail
        refine (deeds_ok w7 hd2.tape (by omega)).mono ?_
        rintro e w8 ⟨x8, rfl, hx, q8⟩
        obtain ⟨xa, xc, rfl⟩ := owns_shape hx
        have HX8 := Lib.hid hx
        have HD8 := Lib.hid (hd2.fr q8)
        have Q8 := Lib.hid q8
        clear hx q8
        obtain ⟨ma, mc, rfl⟩ := owns_shape HD8.out.ref.out
        have rd8 := (Fr.refl no w8).drew
        obtain ⟨y0, y1, y2⟩ := cells3 (rd8.heap HD8.out.ref.obj (by simp))
        have hle := hd2.tape.le
        have hsub : IntKind.i64.wrap ((bs.length : Int) - (a2 : Int)) = (bs.length : Int) - (a2 : Int) := by rw [IntKind.wrap_i64]; omega
        have SD := samedeeds_ok w8.drew _ _ dl2 dl2 (owns_reads (owns_fr HX8.out rd8 (by simp))) (owns_reads (HD8.out.fr rd8).ref.out) (by omega) (by omega)
        rw [show decide (dl2 = dl2) = true from decide_eq_true rfl] at SD
        have SDH := Lib.hid SD
        clear SD
        go_wp2_with fail
        refine Lex.region [5, 8] [22] (by kernel_rfl) (by kernel_rfl) ?_
        refine Lex.opens (fun w' => w'.cell? ⟨r, 0, none⟩ = some (.slice va bs.length vc) ∧ w'.cell? ⟨r, 1, none⟩ = some (.int .i64 a2) ∧ w'.cell? ⟨r, 2, none⟩ = some (.slice ma dl2.length mc)) (⟨y0, y1, y2⟩) ?_
        repeat (first
          | (refine Lex.skips (by rfl) ?_; (try simp only [Act.put, List.setIfInBounds_toArray, List.set_cons_zero, List.set_cons_succ]))
          | (refine Lex.quiet (v := ?_) (by rfl) (by rfl) ?_ ?_; rotate_left; (focus (intro w' hS'; go_simp; try rfl)); (try simp only [Act.put, List.setIfInBounds_toArray, List.set_cons_zero, List.set_cons_succ])))
        refine Lex.loud (by rfl) (by rfl) ?_
        intro K' hK'
        go_simp
        refine SDH.out.mono ?_
        rintro e w9 ⟨rfl, q9⟩
        have HD9 := Lib.hid ((HD8.out.fr rd8).fr q9)
        have Q9 := Lib.hid (Q8.out.trans (rd8.trans q9))
        have HX9 := Lib.hid (owns_fr HX8.out (rd8.trans q9) (by simp))
        refine hK' _ _ (⟨q9.cell y0 (by simp), q9.cell y1 (by simp), q9.cell y2 (by simp)⟩) ?_
        clear hK'
        try simp only [Act.put, List.setIfInBounds_toArray, List.set_cons_zero, List.set_cons_succ]
        clear y0 y1 y2 q9 rd8
        obtain ⟨y0, y1, y2⟩ := cells3 HD9.out.ref.obj
        repeat (first
          | (refine Lex.skips (by rfl) ?_; (try simp only [Act.put, List.setIfInBounds_toArray, List.set_cons_zero, List.set_cons_succ]))
          | (refine Lex.quiet (v := ?_) (by rfl) (by rfl) ?_ ?_; rotate_left; (focus (intro w' hS'; go_simp; try rfl)); (try simp only [Act.put, List.setIfInBounds_toArray, List.set_cons_zero, List.set_cons_succ])))
        refine Lex.loud (by rfl) (by rfl) ?_
        intro K' hK'
        go_simp
        refine (left_ok w9 HD9.out.tape (by omega)).mono ?_
        rintro e w10 ⟨rfl, q10⟩
        have HD10 := Lib.hid (HD9.out.fr q10)
        have Q10 := Lib.hid (Q9.out.trans q10)
        have HX10 := Lib.hid (owns_fr HX9.out q10 (by simp))
        refine hK' _ _ (⟨q10.cell y0 (by simp), q10.cell y1 (by simp), q10.cell y2 (by simp)⟩) ?_
        clear hK'
        try simp only [Act.put, List.setIfInBounds_toArray, List.set_cons_zero, List.set_cons_succ]
        clear y0 y1 y2 q10
        repeat (first
          | (refine Lex.skips (by rfl) ?_; (try simp only [Act.put, List.setIfInBounds_toArray, List.set_cons_zero, List.set_cons_succ]))
          | (refine Lex.quiet (v := ?_) (by rfl) (by rfl) ?_ ?_; rotate_left; (focus (intro w' hS'; go_simp; try rfl)); (try simp only [Act.put, List.setIfInBounds_toArray, List.set_cons_zero, List.set_cons_succ])))
        refine Lex.done ?_
        refine Lex.ends ?_
        go_wp2_with fail
        refine (overdeeds_ok w10 _ _ _ _ HX10.out).mono ?_
        rintro e w11 ⟨rfl, q11⟩
        have Q11 := Lib.hid (Q10.out.trans' q11 (fun i hi _ => (HX8.out.lt i hi).1))
        have HD11 := Lib.hid (hd2.fr Q11.out)
        have R11 := Lib.hid (R7.out.trans Q11.out)
        clear q11 HD8 HD9 HD10 HX8 HX9 HX10 Q8 Q9 Q10
        have rd11 := (Fr.refl no w11).drew
        have HD12 := Lib.hid (HD11.out.fr rd11)
        obtain ⟨-, -, y2⟩ := cells3 HD12.out.ref.obj
        go_wp2_with fail
        refine Lex.region [4, 9] [12] (by kernel_rfl) (by kernel_rfl) ?_
        refine Lex.opens (fun w' => w'.cell? ⟨r, 2, none⟩ = some (.slice ma dl2.length mc)) (y2) ?_
        repeat (first
          | (refine Lex.skips (by rfl) ?_; (try simp only [Act.put, List.setIfInBounds_toArray, List.set_cons_zero, List.set_cons_succ]))
          | (refine Lex.quiet (v := ?_) (by rfl) (by rfl) ?_ ?_; rotate_left; (focus (intro w' hS'; go_simp; try rfl)); (try simp only [Act.put, List.setIfInBounds_toArray, List.set_cons_zero, List.set_cons_succ])))
        refine Lex.loud (by rfl) (by rfl) ?_
        intro K' hK'
        go_simp
        refine (deeds_ok w11.drew HD12.out.tape (by omega)).mono ?_
        rintro e w13 ⟨x13, rfl, hx, q13⟩
        obtain ⟨xb, xd, rfl⟩ := owns_shape hx
        have HX13 := Lib.hid hx
        have HD13 := Lib.hid (HD12.out.fr q13)
        have R13 := Lib.hid ((R11.out.trans rd11).trans q13)
        refine hK' _ _ (q13.cell y2 (by simp)) ?_
        clear hK'
        try simp only [Act.put, List.setIfInBounds_toArray, List.set_cons_zero, List.set_cons_succ]
        clear y2 hx q13 rd11
        obtain ⟨-, -, y2⟩ := cells3 HD13.out.ref.obj
        have SD := samedeeds_ok w13 _ _ dl2 dl2 (owns_reads HX13.out) (owns_reads HD13.out.ref.out) (by omega) (by omega)
        rw [show decide (dl2 = dl2) = true from decide_eq_true rfl] at SD
        have SDI := Lib.hid SD
        clear SD
        repeat (first
          | (refine Lex.skips (by rfl) ?_; (try simp only [Act.put, List.setIfInBounds_toArray, List.set_cons_zero, List.set_cons_succ]))
          | (refine Lex.quiet (v := ?_) (by rfl) (by rfl) ?_ ?_; rotate_left; (focus (intro w' hS'; go_simp; try rfl)); (try simp only [Act.put, List.setIfInBounds_toArray, List.set_cons_zero, List.set_cons_succ])))
        refine Lex.loud (by rfl) (by rfl) ?_
        intro K' hK'
        go_simp
        refine SDI.out.mono ?_
        rintro e w14 ⟨rfl, q14⟩
        have HD14 := Lib.hid (HD13.out.fr q14)
        have R14 := Lib.hid (R13.out.trans q14)
        refine hK' _ _ (q14.cell y2 (by simp)) ?_
        clear hK'
        try simp only [Act.put, List.setIfInBounds_toArray, List.set_cons_zero, List.set_cons_succ]
        clear y2 q14
        repeat (first
          | (refine Lex.skips (by rfl) ?_; (try simp only [Act.put, List.setIfInBounds_toArray, List.set_cons_zero, List.set_cons_succ]))
          | (refine Lex.quiet (v := ?_) (by rfl) (by rfl) ?_ ?_; rotate_left; (focus (intro w' hS'; go_simp; try rfl)); (try simp only [Act.put, List.setIfInBounds_toArray, List.set_cons_zero, List.set_cons_succ])))
        refine Lex.done ?_
        refine Lex.ends ?_
        go_wp2_with fail
        go_roundw
        case rel => exact ⟨k + 1, a2, dl2, lv2, _, by omega, by go_num, HD14, HL2, R14⟩
        case measure => first | (simp [intOf]; done) | (simp [intOf]; omega)

      | false =>
        go_wp2_with fail
        refine (get_ok wr hd.out.tape HLT.out (by omega) hd.out.room).mono ?_
        rintro e w6 ⟨lv2, rfl, hT, q6, n6⟩
        have HD6 := Lib.hid (hd.out.goT hT q6 n6)
        have R6 := Lib.hid (hf.out.trans' q6 (fun i hi _ => Nat.le_trans hB (hd.out.tape.new i hi)))
        clear hT q6 n6
        go_wp2_with fail
        refine (refget_ok w6 HD6.out.ref HLT.out (by omega) HD6.out.room).mono ?_
        rintro e w7 ⟨mv2, rfl, hR, q7, n7⟩
        have HE : Hid (∃ a2 dl2, dl2.length = k + 1 ∧ Duo w7 B t r bs a2 dl2 a2 dl2 iv lv2 (.slice va bs.length vc) mv2) := Lib.hid ⟨_, _, by rw [List.length_append, hdl.out]; rfl, HD6.out.goR hR q7 n7⟩
        have R7 := Lib.hid (R6.out.trans' q7 (fun i hi _ => Nat.le_trans hB (HD6.out.ref.new i hi)))
        clear hR q7 n7
        obtain ⟨a2, dl2, hl2, hd2⟩ := HE.out
        have HL2 := Lib.hid hl2
        have hl2' : dl2.length ≤ 200 := by omega
        clear hl2
        generalize getB bs a = gb at *
        go_wp2_with fail
        refine (deeds_ok w7 hd2.tape (by omega)).mono ?_
        rintro e w8 ⟨x8, rfl, hx, q8⟩
        obtain ⟨xa, xc, rfl⟩ := owns_shape hx
        have HX8 := Lib.hid hx
        have HD8 := Lib.hid (hd2.fr q8)
        have Q8 := Lib.hid q8
        clear hx q8
        obtain ⟨ma, mc, rfl⟩ := owns_shape HD8.out.ref.out
        have rd8 := (Fr.refl no w8).drew
        obtain ⟨y0, y1, y2⟩ := cells3 (rd8.heap HD8.out.ref.obj (by simp))
        have hle := hd2.tape.le
        have hsub : IntKind.i64.wrap ((bs.length : Int) - (a2 : Int)) = (bs.length : Int) - (a2 : Int) := by rw [IntKind.wrap_i64]; omega
        have SD := samedeeds_ok w8.drew _ _ dl2 dl2 (owns_reads (owns_fr HX8.out rd8 (by simp))) (owns_reads (HD8.out.fr rd8).ref.out) (by omega) (by omega)
        rw [show decide (dl2 = dl2) = true from decide_eq_true rfl] at SD
        have SDH := Lib.hid SD
        clear SD
        go_wp2_with fail
        refine Lex.region [5, 8] [22] (by kernel_rfl) (by kernel_rfl) ?_
        refine Lex.opens (fun w' => w'.cell? ⟨r, 0, none⟩ = some (.slice va bs.length vc) ∧ w'.cell? ⟨r, 1, none⟩ = some (.int .i64 a2) ∧ w'.cell? ⟨r, 2, none⟩ = some (.slice ma dl2.length mc)) (⟨y0, y1, y2⟩) ?_
        repeat (first
          | (refine Lex.skips (by rfl) ?_; (try simp only [Act.put, List.setIfInBounds_toArray, List.set_cons_zero, List.set_cons_succ]))
          | (refine Lex.quiet (v := ?_) (by rfl) (by rfl) ?_ ?_; rotate_left; (focus (intro w' hS'; go_simp; try rfl)); (try simp only [Act.put, List.setIfInBounds_toArray, List.set_cons_zero, List.set_cons_succ])))
        refine Lex.loud (by rfl) (by rfl) ?_
        intro K' hK'
        go_simp
        refine SDH.out.mono ?_
        rintro e w9 ⟨rfl, q9⟩
        have HD9 := Lib.hid ((HD8.out.fr rd8).fr q9)
        have Q9 := Lib.hid (Q8.out.trans (rd8.trans q9))
        have HX9 := Lib.hid (owns_fr HX8.out (rd8.trans q9) (by simp))
        refine hK' _ _ (⟨q9.cell y0 (by simp), q9.cell y1 (by simp), q9.cell y2 (by simp)⟩) ?_
        clear hK'
        try simp only [Act.put, List.setIfInBounds_toArray, List.set_cons_zero, List.set_cons_succ]
        clear y0 y1 y2 q9 rd8
        obtain ⟨y0, y1, y2⟩ := cells3 HD9.out.ref.obj
        repeat (first
          | (refine Lex.skips (by rfl) ?_; (try simp only [Act.put, List.setIfInBounds_toArray, List.set_cons_zero, List.set_cons_succ]))
          | (refine Lex.quiet (v := ?_) (by rfl) (by rfl) ?_ ?_; rotate_left; (focus (intro w' hS'; go_simp; try rfl)); (try simp only [Act.put, List.setIfInBounds_toArray, List.set_cons_zero, List.set_cons_succ])))
        refine Lex.loud (by rfl) (by rfl) ?_
        intro K' hK'
        go_simp
        refine (left_ok w9 HD9.out.tape (by omega)).mono ?_
        rintro e w10 ⟨rfl, q10⟩
        have HD10 := Lib.hid (HD9.out.fr q10)
        have Q10 := Lib.hid (Q9.out.trans q10)
        have HX10 := Lib.hid (owns_fr HX9.out q10 (by simp))
        refine hK' _ _ (⟨q10.cell y0 (by simp), q10.cell y1 (by simp), q10.cell y2 (by simp)⟩) ?_
        clear hK'
        try simp only [Act.put, List.setIfInBounds_toArray, List.set_cons_zero, List.set_cons_succ]
        clear y0 y1 y2 q10
        repeat (first
          | (refine Lex.skips (by rfl) ?_; (try simp only [Act.put, List.setIfInBounds_toArray, List.set_cons_zero, List.set_cons_succ]))
          | (refine Lex.quiet (v := ?_) (by rfl) (by rfl) ?_ ?_; rotate_left; (focus (intro w' hS'; go_simp; try rfl)); (try simp only [Act.put, List.setIfInBounds_toArray, List.set_cons_zero, List.set_cons_succ])))
        refine Lex.done ?_
        refine Lex.ends ?_
        go_wp2_with fail
        refine (overdeeds_ok w10 _ _ _ _ HX10.out).mono ?_
        rintro e w11 ⟨rfl, q11⟩
        have Q11 := Lib.hid (Q10.out.trans' q11 (fun i hi _ => (HX8.out.lt i hi).1))
        have HD11 := Lib.hid (hd2.fr Q11.out)
        have R11 := Lib.hid (R7.out.trans Q11.out)
        clear q11 HD8 HD9 HD10 HX8 HX9 HX10 Q8 Q9 Q10
        have rd11 := (Fr.refl no w11).drew
        have HD12 := Lib.hid (HD11.out.fr rd11)
        obtain ⟨-, -, y2⟩ := cells3 HD12.out.ref.obj
        go_wp2_with fail
        refine Lex.region [4, 9] [12] (by kernel_rfl) (by kernel_rfl) ?_
        refine Lex.opens (fun w' => w'.cell? ⟨r, 2, none⟩ = some (.slice ma dl2.length mc)) (y2) ?_
        repeat (first
          | (refine Lex.skips (by rfl) ?_; (try simp only [Act.put, List.setIfInBounds_toArray, List.set_cons_zero, List.set_cons_succ]))
          | (refine Lex.quiet (v := ?_) (by rfl) (by rfl) ?_ ?_; rotate_left; (focus (intro w' hS'; go_simp; try rfl)); (try simp only [Act.put, List.setIfInBounds_toArray, List.set_cons_zero, List.set_cons_succ])))
        refine Lex.loud (by rfl) (by rfl) ?_
        intro K' hK'
        go_simp
        refine (deeds_ok w11.drew HD12.out.tape (by omega)).mono ?_
        rintro e w13 ⟨x13, rfl, hx, q13⟩
        obtain ⟨xb, xd, rfl⟩ := owns_shape hx
        have HX13 := Lib.hid hx
        have HD13 := Lib.hid (HD12.out.fr q13)
        have R13 := Lib.hid ((R11.out.trans rd11).trans q13)
        refine hK' _ _ (q13.cell y2 (by simp)) ?_
        clear hK'
        try simp only [Act.put, List.setIfInBounds_toArray, List.set_cons_zero, List.set_cons_succ]
        clear y2 hx q13 rd11
        obtain ⟨-, -, y2⟩ := cells3 HD13.out.ref.obj
        have SD := samedeeds_ok w13 _ _ dl2 dl2 (owns_reads HX13.out) (owns_reads HD13.out.ref.out) (by omega) (by omega)
        rw [show decide (dl2 = dl2) = true from decide_eq_true rfl] at SD
        have SDI := Lib.hid SD
        clear SD
        repeat (first
          | (refine Lex.skips (by rfl) ?_; (try simp only [Act.put, List.setIfInBounds_toArray, List.set_cons_zero, List.set_cons_succ]))
          | (refine Lex.quiet (v := ?_) (by rfl) (by rfl) ?_ ?_; rotate_left; (focus (intro w' hS'; go_simp; try rfl)); (try simp only [Act.put, List.setIfInBounds_toArray, List.set_cons_zero, List.set_cons_succ])))
        refine Lex.loud (by rfl) (by rfl) ?_
        intro K' hK'
        go_simp
        refine SDI.out.mono ?_
        rintro e w14 ⟨rfl, q14⟩
        have HD14 := Lib.hid (HD13.out.fr q14)
        have R14 := Lib.hid (R13.out.trans q14)
        refine hK' _ _ (q14.cell y2 (by simp)) ?_
        clear hK'
        try simp only [Act.put, List.setIfInBounds_toArray, List.set_cons_zero, List.set_cons_succ]
        clear y2 q14
        repeat (first
          | (refine Lex.skips (by rfl) ?_; (try simp only [Act.put, List.setIfInBounds_toArray, List.set_cons_zero, List.set_cons_succ]))
          | (refine Lex.quiet (v := ?_) (by rfl) (by rfl) ?_ ?_; rotate_left; (focus (intro w' hS'; go_simp; try rfl)); (try simp only [Act.put, List.setIfInBounds_toArray, List.set_cons_zero, List.set_cons_succ])))
        refine Lex.done ?_
        refine Lex.ends ?_
        go_wp2_with fail
        go_roundw
        case rel => exact ⟨k + 1, a2, dl2, lv2, _, by omega, by go_num, HD14, HL2, R14⟩
        case measure => first | (simp [intOf]; done) | (simp [intOf]; omega)

    · obtain rfl : k = ls.length := by omega
      go_wp2_with fail
      refine (awake_ok wr).mono ?_
      rintro e w' ⟨rfl, r⟩
      go_wp2_with fail
      go_ret
      exact ⟨rfl, hf.out.trans r⟩

end Go.Proofs.Ytdklbmggljakkaa
