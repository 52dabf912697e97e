/- ModuleAgain's walk. -/
import Derived.Test.YtdngflhfhmnipaaM22
set_option linter.unusedSimpArgs false
set_option linter.unusedVariables false
set_option linter.unusedSectionVars false
set_option linter.unnecessarySimpa false
namespace Go.Proofs.Ytdngflhfhmnipaa
open Go.RowKit

attribute [local go_sem] Program.isFuncB Program.isSliceB

variable {w w' w'' w0 : World}

theorem getM_ok (bs : List Nat) (h : (getM bs).2.1 = 0) : getM bs = (getMx bs, 0, 0) := by
  have hG : (getG bs).er = 0 := by
    unfold getM at h
    split at h
    · rename_i h0; exact (h0 h).elim
    · rename_i h0; simpa using h0
  unfold getM
  rw [if_neg (by simpa using hG)]

set_option maxRecDepth 100000 in
set_option maxHeartbeats 16000000 in
theorem again_mod (w : World) (bv : Value) (bs : List Nat) (more : Nat) (hmore : more < 256) (hb : Reads w bv 1 bs.length (u8s bs)) (hform : (bv = .slice none 0 0 ∧ bs = []) ∨ ∃ b o c, bv = .slice (some ⟨b, o, none⟩) bs.length c) (hlt : ∀ b ∈ bs, b < 256) (hl : bs.length ≤ maxLen) (hold : ∀ k, bv.ownBlock = some k → k < w.heap.size) :
    Calls Try.prog 5 #[bv, .int .u8 more] w fun e w' => e = .returned (.bool true) ∧ Fr no w w' := by
  obtain ⟨ba, bc, rfl⟩ := hb.shape
  unfold maxLen at hl
  have HB := Lib.hid hb
  have HFO := Lib.hid hform
  have HLT := Lib.hid hlt
  have HOL := Lib.hid hold
  clear hb hform hlt hold
  go_enter Try.func5, Try.ntmps5
  go_wp2_with fail
  refine (awake_ok w).mono ?_
  rintro e w1 ⟨rfl, r1⟩
  have R1 := Lib.hid r1
  clear r1
  by_cases h9 : 900 < bs.length
  · have h9' : (900 : Int) < bs.length := by omega
    go_wp2_with fail
    go_ret
    exact ⟨rfl, R1.out⟩
  have h9' : ¬ (900 : Int) < bs.length := by omega
  have SMX := Lib.hid (getMx_small bs (by omega) HLT.out)
  have HB1 := Lib.hid (HB.out.fr R1.out (by simp))
  have G1 := Lib.hid (modget_ok w1 _ bs HB1.out HFO.out HLT.out (by omega) SMX.out (fun k hk => Nat.lt_of_lt_of_le (HOL.out k hk) R1.out.size))
  have GBK := Lib.hid (getM_back bs HLT.out)
  have GBD := Lib.hid (getM_bad bs HLT.out)
  have GLS := Lib.hid (getM_less bs HLT.out)
  have GOK := Lib.hid (getM_ok bs)
  go_wp2_with fail
  refine G1.out.mono ?_
  rintro e w2 ⟨da, dc, fa, fc, rfl, hm2, -, -, r2⟩
  by_cases her : (getM bs).2.1 = 0
  rotate_left
  · obtain ⟨q1, q2, q3⟩ := GBD.out her
    have hd : (getM bs).1.d.length = 0 := by rw [q1]; rfl
    have hf : (getM bs).1.f.length = 0 := by rw [q1]; rfl
    have R2 := Lib.hid (R1.out.trans r2)
    clear GBK GBD GLS GOK G1 SMX hm2 q1 r2
    generalize (getM bs).1.d.length = ld at *
    generalize (getM bs).1.f.length = lf at *
    generalize (getM bs).2.1 = er at *
    generalize (getM bs).2.2 = fl at *
    subst hd
    subst hf
    have e1 : (er != 0) = true := by simpa using her
    go_wp2_with fail
    go_ret
    exact ⟨rfl, (R2.out.alloc _).alloc _⟩
  have GOK2 := GOK.out her
  obtain ⟨f1, f2, -⟩ := GBK.out her
  obtain ⟨n1, n2⟩ := GLS.out her
  have hx : (getM bs).1 = getMx bs := by rw [GOK2]
  have FM : Hid (FineM (getMx bs)) := Lib.hid (by rw [← hx]; exact f1)
  have FB : Hid (modB (getMx bs) = bs) := Lib.hid (by rw [← hx]; exact f2)
  have NL : Hid ((getM (bs.take (bs.length - 1))).2.1 ≠ 0) := Lib.hid n2
  have hpos : 1 ≤ bs.length := by
    rcases Nat.eq_zero_or_pos bs.length with h | h
    · exact (n1 (List.length_eq_zero_iff.1 h)).elim
    · exact h
  rw [GOK2] at hm2 ⊢
  dsimp only at hm2 ⊢
  have HM2 := Lib.hid hm2
  have R2 := Lib.hid (R1.out.trans r2)
  clear GBK GBD GLS GOK G1 hm2 r2 her GOK2 f1 f2 n1 n2 hx HB1 R1
  generalize getMx bs = mx at *
  have CK0 : Hid (modCk mx = 0) := Lib.hid FM.out.ck
  have PM0 : Hid (putM mx = bs) := Lib.hid (by unfold putM; rw [if_pos FM.out.ck]; exact FB.out)
  have rb := ((Fr.refl no w2).alloc (.cells #[.slice da mx.d.length dc, .slice fa mx.f.length fc] 28)).alloc (.cells #[.int .i64 0, .int .i64 0] 39)
  have B0 := Lib.hid (heap_keep (heap_new w2 (.cells #[.slice da mx.d.length dc, .slice fa mx.f.length fc] 28)) (.cells #[.int .i64 0, .int .i64 0] 39))
  have HM3 := Lib.hid (HM2.out.fr rb)
  have R3 := Lib.hid (R2.out.trans rb)
  have PM := putm_ok _ mx da dc fa fc HM3.out SMX.out
  rw [CK0.out, PM0.out] at PM
  have PMH := Lib.hid PM
  have CKH := Lib.hid (fun w (h : ModIn w mx da dc fa) => check_mod w mx da dc fa fc h SMX.out)
  rw [CK0.out] at CKH
  obtain ⟨c0, c1⟩ := cells2 B0.out
  clear rb HM2 R2 PM
  go_wp2_with fail
  refine PMH.out.mono ?_
  rintro e w4 ⟨v, rfl, hv, -, r⟩
  obtain ⟨va, vc, rfl⟩ := owns_shape hv
  have V4 := Lib.hid (owns_reads hv)
  have R4 := Lib.hid (R3.out.trans r)
  have B4 := Lib.hid (r.heap B0.out (by simp))
  have HM4 := Lib.hid (HM3.out.fr r)
  clear r hv R3 B0 HM3 PMH c0 c1
  obtain ⟨c0, c1⟩ := cells2 B4.out
  go_wp2_with fail
  refine (CKH.out w4 HM4.out).mono ?_
  rintro e w5 ⟨rfl, r⟩
  have R5 := Lib.hid (R4.out.trans r)
  have V5 := Lib.hid (V4.out.fr r (by simp))
  have SB := samebytes_ok w5 _ _ bs bs V5.out (HB.out.fr R5.out (by simp)) HLT.out HLT.out
  rw [decide_eq_true rfl] at SB
  have SBH := Lib.hid SB
  clear r R4 V4 V5 SB B4 HM4 CKH c0 c1
  go_wp2_with fail
  refine SBH.out.mono ?_
  rintro e w6 ⟨rfl, rfl⟩
  clear SBH
  rcases HFO.out with ⟨-, hz⟩ | ⟨b, o, c, hf⟩
  · rw [hz] at hpos; simp at hpos
  obtain ⟨rfl, rfl⟩ : ba = some ⟨b, o, none⟩ ∧ bc = c := by simpa using hf
  have hcap := cap_of_reads HB.out
  have hk1 : ((bs.take (bs.length - 1)).length) = bs.length - 1 := by rw [List.length_take]; omega
  have HK1 : Hid (Reads w5 (.slice (some ⟨b, o, none⟩) (bs.length - 1) bc) 1 (bs.take (bs.length - 1)).length (u8s (bs.take (bs.length - 1)))) := Lib.hid (by
    rw [hk1, u8s, List.map_take]
    exact reads_take (HB.out.fr R5.out (by simp)) (by omega))
  have G5 := modget_ok w5 (.slice (some ⟨b, o, none⟩) (bs.length - 1) bc) (bs.take (bs.length - 1)) HK1.out (.inr ⟨b, o, bc, by rw [hk1]⟩) (fun x hx => HLT.out x (List.mem_of_mem_take hx)) (by rw [hk1]; omega) (getMx_small _ (by rw [hk1]; omega) (fun x hx => HLT.out x (List.mem_of_mem_take hx))) (fun k hk => Nat.lt_of_lt_of_le (HOL.out k (by exact hk)) R5.out.size)
  have G5H := Lib.hid G5
  have g1 : ¬ ((bs.length : Int) - 1) < 0 := by omega
  have g2 : (bs.length : Int) - 1 ≤ bc := by omega
  have g3 : ((bs.length : Int) - 1).toNat = bs.length - 1 := by omega
  have g4 : (0 : Int) ≤ (bs.length : Int) - 1 := by omega
  have g5 : IntKind.i64.wrap ((bs.length : Int) - 1) = (bs.length : Int) - 1 := by rw [IntKind.wrap_i64] <;> omega
  have g6 : ¬ (bs.length : Int) < 1 := by omega
  clear hf G5 HK1 hk1
  go_wp2_with fail
  refine G5H.out.mono ?_
  rintro e w7 ⟨da5, dc5, fa5, fc5, rfl, -, -, -, r7⟩
  have e5 : ((getM (bs.take (bs.length - 1))).2.1 != 0) = true := by simpa using NL.out
  generalize (getM (bs.take (bs.length - 1))).1.d.length = ld5 at *
  generalize (getM (bs.take (bs.length - 1))).1.f.length = lf5 at *
  generalize (getM (bs.take (bs.length - 1))).2.1 = er5 at *
  generalize (getM (bs.take (bs.length - 1))).2.2 = fl5 at *
  have r8 := ((Fr.refl no w7).alloc (.cells #[.slice da5 ld5 dc5, .slice fa5 lf5 fc5] 28)).alloc (.cells #[.int .i64 er5, .int .i64 fl5] 39)
  have B8 := Lib.hid (heap_new (w7.alloc (.cells #[.slice da5 ld5 dc5, .slice fa5 lf5 fc5] 28)) (.cells #[.int .i64 er5, .int .i64 fl5] 39))
  have R8 := Lib.hid (R5.out.trans (r7.trans r8))
  have CB := Lib.hid (copybytes_ok _ _ bs (HB.out.fr R8.out (by simp)) (by omega))
  have SZ8 := Lib.hid R8.out.size
  clear r7 r8 G5H R5 g1 g2 g3 g4 g5 NL SMX
  go_wp2_with fail
  refine CB.out.mono ?_
  rintro e w9 ⟨x, rfl, hx, r9⟩
  obtain ⟨xa, xc, rfl⟩ := owns_shape hx
  have r10 := (Fr.refl no w9).alloc (.cells #[.int .u8 more] 5)
  have HX := Lib.hid (owns_fr hx r10 (by simp))
  have R10 := Lib.hid (R8.out.trans (r9.trans r10))
  have B10 := Lib.hid ((r9.trans r10).heap B8.out (by simp))
  have HN := Lib.hid (owns_reads (owns_row w9 [.int .u8 more] 5 (by simp)))
  have SZ := Lib.hid ((r9.trans r10).size)
  clear hx r9 r10 CB B8 R8
  go_wp2_with (at_builtin; (refine wpList_append_at rfl (.tmp 86) _ 23 rfl _ 5 (.int .u8 0) 1 1 Try.underlying23 Try.infoU8 rfl (by decide) _ bs.length _ rfl HX.out 1 _ HN.out (by intro u hu; simp at hu; subst hu; rfl) (by unfold maxLen; omega) (by omega) SZ.out ?_); intro ga gc w11 ho hg hb; clear hb; have rg := (Fr.refl (fun k => (Value.slice xa bs.length xc).ownBlock = some k) _).grown hg (fun k hk => .inl hk); have R11 := Lib.hid (R10.out.trans' rg (fun k hk _ => Nat.le_trans SZ8.out (HX.out.lt k hk).1)); have B11 := Lib.hid (rg.heap B10.out (fun hk => by have := (HX.out.lt _ hk).1; rw [World.size_alloc] at this; omega)); have HO := Lib.hid ho; clear rg hg ho HX R10 B10 HN SZ SZ8)
  obtain ⟨g, rfl⟩ : ∃ g, ga = some ⟨g, 0, none⟩ := by
    rcases HO.out.2 with ⟨h0, h1⟩ | ⟨g, cap, cur, he, -⟩
    · omega
    · cases he; exact ⟨g, rfl⟩
  have GM := getM_more mx FM.out more []
  rw [FB.out] at GM
  have e1 : (bs ++ [more]).length = bs.length + 1 := by simp
  have hl2 : ∀ b ∈ bs ++ [more], b < 256 := by
    intro b hb
    rw [List.mem_append, List.mem_singleton] at hb
    rcases hb with hb | rfl
    · exact HLT.out b hb
    · exact hmore
  have V11 : Reads w11 (.slice (some ⟨g, 0, none⟩) (bs.length + 1) gc) 1 (bs ++ [more]).length (u8s (bs ++ [more])) := by
    rw [e1, u8s, List.map_append]
    exact owns_reads HO.out
  have G6 := modget_ok w11 _ (bs ++ [more]) V11 (.inr ⟨g, 0, gc, by rw [e1]⟩) hl2 (by rw [e1]; omega) (getMx_small _ (by rw [e1]; omega) hl2) (fun k hk => (HO.out.lt k hk).2)
  rw [GM] at G6
  dsimp only at G6
  have G6H := Lib.hid G6
  clear GM e1 hl2 V11 G6 HO
  go_wp2_with fail
  refine G6H.out.mono ?_
  rintro e w12 ⟨da6, dc6, fa6, fc6, rfl, -, -, -, r12⟩
  have r13 := ((r12.alloc (.cells #[.slice da6 0 dc6, .slice fa6 0 fc6] 28)).alloc (.cells #[.int .i64 4, .int .i64 bs.length] 39))
  have B13 := Lib.hid (r13.heap B11.out (by simp))
  have R13 := Lib.hid (R11.out.trans r13)
  obtain ⟨c0, c1⟩ := cells2 B13.out
  rw [World.size_alloc] at c0 c1
  clear r12 r13 G6H B11 R11
  go_wp2_with fail
  go_ret
  exact ⟨rfl, R13.out⟩

end Go.Proofs.Ytdngflhfhmnipaa

namespace Go.Proofs.Ytdngflhfhmnipaa
open Go.RowKit
/-- a slice that was handed in points at no spot inside a cell -/
theorem arg_form {P : Program} {W : World} {base : Nat} {t e : TypeId} {v : Value} (ht : P.underlying t = some (.slice e)) (hk : Value.okWide P W .any base t v) : v = .slice none 0 0 ∨ ∃ b o n c, v = .slice (some ⟨b, o, none⟩) n c := by
  obtain ⟨a, len, cap, rfl⟩ := WideShapes.okWide_slice ht hk
  have h := hk
  simp only [Value.okWide, ht, Cell.okWide] at h
  rcases a with _ | ⟨b, o, s⟩
  · simp only [Cell.ok, ht] at h
    split at h
    all_goals simp_all
  · simp only [Cell.ok, ht] at h
    obtain ⟨-, -, -, hs, -⟩ := h
    dsimp only at hs
    exact .inr ⟨b, o, len, cap, by rw [hs]⟩

theorem again_mod_rd (w : World) (v : Value) {n : Nat} {d : Dt} (h : Rd Try.prog w n 23 [v] d) (hold : ∀ k, v.ownBlock = some k → k < w.heap.size) (hform : v = .slice none 0 0 ∨ ∃ b o n c, v = .slice (some ⟨b, o, none⟩) n c) (more : Int) (hm : (Lit.int .u8 more).wf = true) :
    Calls Try.prog 5 #[v, .int .u8 more] w fun e w' => e = .returned (.bool true) ∧ Fr no w w' := by
  obtain ⟨bs, hb, hlt, hl⟩ := bytes_of h
  have h1 : IntKind.u8.min ≤ more ∧ more ≤ IntKind.u8.max := by simpa [Lit.wf] using hm
  have h2 : IntKind.u8.min = 0 := by decide
  have h3 : IntKind.u8.max = 255 := by decide
  have h4 : 0 ≤ more ∧ more < 256 := by omega
  obtain ⟨k, rfl⟩ : ∃ k : Nat, more = k := ⟨more.toNat, by omega⟩
  refine again_mod w v bs k (by omega) hb ?_ hlt hl hold
  rcases hform with rfl | ⟨b, o, n, c, rfl⟩
  · refine .inl ⟨rfl, ?_⟩
    obtain ⟨a, c, hs⟩ := hb.shape
    have : bs.length = 0 := by injection hs with h5 h6 h7; exact h6.symm
    exact List.length_eq_zero_iff.1 this
  · obtain ⟨a, c', hs⟩ := hb.shape
    injection hs with h5 h6 h7
    exact .inr ⟨b, o, c, by rw [h6]⟩

end Go.Proofs.Ytdngflhfhmnipaa
