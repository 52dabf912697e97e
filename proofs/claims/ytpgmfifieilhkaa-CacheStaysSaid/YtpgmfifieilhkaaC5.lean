import Derived.Test.YtpgmfifieilhkaaC4
import Derived.Deep.CutRange
import Derived.Deep.CutBlock
namespace Go.Proofs.Ytpgmfifieilhkaa
open Go.RowKit

attribute [local go_sem] Program.isFuncB Program.isSliceB

variable {w w' : World} {words : Nat} {P : List (Nat × List Nat)} {s : CS}

theorem len_flat : ∀ (P : List (Nat × List Nat)), (∀ x ∈ P, x.2 ≠ []) → P.length ≤ (flat P).length
  | [], _ => by simp
  | (f, ws) :: P, h => by
    have ih := len_flat P (fun x hx => h x (List.mem_cons_of_mem _ hx))
    have h1 : 0 < ws.length := List.length_pos_iff.2 (h (f, ws) (List.mem_cons_self ..))
    have : flat ((f, ws) :: P) = ws ++ flat P := by simp [flat]
    rw [this, List.length_append, List.length_cons]; omega

theorem ptr_one {a : Addr} : ∀ u ∈ [Value.pointer (some a)], u.oneCell' = true := by
  intro u hu; simp only [List.mem_singleton] at hu; subst hu; rfl

set_option maxRecDepth 100000 in
set_option maxHeartbeats 2000000 in
theorem put_ok (h : CSt w words P s) (f : Nat) (hf : f < 64) (hm : f ∉ P.map (·.1)) (wv : Value) (ws : List Nat) (hr : Reads w wv 1 ws.length (u32s ws)) (hlt : ∀ n ∈ ws, n < 4294967296)
    (hn : ws ≠ []) (hroom : (flat P).length + ws.length ≤ words) (hap : ∀ k, wv.ownBlock = some k → ¬ foot s P k) :
    Calls Try.prog 12 #[.pointer (some ⟨s.b, 0, none⟩), .int .i64 f, wv] w fun e w' => e = .returned (.tuple #[.int .u64 (adr (flat P).length), .int .i64 0]) ∧ ∃ s', CTo w w' words P s (P ++ [(f, ws)]) s' := by
  obtain ⟨xa, xc, rfl⟩ := hr.shape
  have hpos : 0 < ws.length := List.length_pos_iff.2 hn
  have hblk : ∀ k, (Value.slice xa ws.length xc).ownBlock = some k → k < w.heap.size := by
    intro k hk
    cases ws with
    | nil => exact (hn rfl).elim
    | cons x l =>
      obtain ⟨b, o, rfl, hc⟩ := hr.at1 (k := 0) (u := .int .u32 x) (by simp [u32s])
      cases hk
      exact World.block_lt_of_cell? _ _ hc
  have H := Lib.hid h
  have HM := Lib.hid hm
  have HR := Lib.hid hr
  have HAP := Lib.hid hap
  have HBK := Lib.hid hblk
  have HN := Lib.hid hn
  have HLT := Lib.hid hlt
  clear h hm hr hap hblk hn hlt
  have hn1 : ((ws.length : Int) == 0) = false := by rw [beq_eq_false_iff_ne]; omega
  have hn2 : (ws.length == 0) = false := by rw [beq_eq_false_iff_ne]; omega
  go_enter Try.func12, Try.ntmps12
  go_wp2_with fail
  refine (ready_yes H.out).mono ?_
  rintro e w1 ⟨rfl, s1, h1⟩
  have hb := h1.b
  obtain ⟨cc, hc1, hc2⟩ := h1.at_.of_
  obtain ⟨ca, ck, hcv⟩ := owns_shape h1.at_.code
  obtain ⟨la, lk, hlv⟩ := owns_shape h1.at_.lies
  have e1 : w1.cell? ⟨s.b, 1, none⟩ = some (.int .i64 words) := by rw [← hb]; exact cell_of_heap h1.at_.obj rfl
  have e5 : w1.cell? ⟨s.b, 5, none⟩ = some (.slice ca (flat P).length ck) := by rw [← hb, ← hcv]; exact cell_of_heap h1.at_.obj rfl
  have e6 : w1.cell? ⟨s.b, 6, none⟩ = some (.pointer (some ⟨s1.g, 0, none⟩)) := by rw [← hb]; exact cell_of_heap h1.at_.obj rfl
  have eg : w1.cell? ⟨s1.g, f, none⟩ = some (.pointer none) := by
    have := cell_of_heap hc1 (hc2 f hf)
    rwa [ofCell, if_neg HM.out] at this
  have zg : w1.frozen? ⟨s1.g, f, none⟩ = false := frozen_of_heap hc1
  have hfew := h1.at_.ok.few
  have H1 := Lib.hid h1
  have HB := Lib.hid hb
  have HCV := Lib.hid hcv
  have HLV := Lib.hid hlv
  have HG := Lib.hid hc1
  clear h1 hc1 hc2 hcv hlv
  have hle : ¬ (words : Int) - (flat P).length < ws.length := by omega
  go_wp2_with fail
  go_quiet (fail)
  -- the world behind the look at the room
  have r12' : Fr no w1 (w1.drewN nq) := (Fr.refl no w1).drewN nq
  have e5' := r12'.cell e5 (by simp)
  have e6' := r12'.cell e6 (by simp)
  have eg' := r12'.cell eg (by simp)
  have zg' : (w1.drewN nq).frozen? ⟨s1.g, f, none⟩ = false := zg
  have hsz1 : (w1.drewN nq).heap.size = w1.heap.size := rfl
  have HSZ1 := Lib.hid hsz1
  have R12' := Lib.hid r12'
  clear e1 e5 e6 eg zg hle hsz1 r12'
  generalize w1.drewN nq = wd at *
  go_upto_region 10 with (fail)
  have HS := Lib.hid HSZ1.out
  rw [HSZ1.out] at HS ⊢
  have hlt1 := H1.out.at_.lt
  have r12 : Fr no w1 (wd.alloc (.cells #[.int .i64 f, .int .i64 (flat P).length, .int .i64 ws.length] 75)) := R12'.out.alloc _
  have hl2 : (wd.alloc (.cells #[.int .i64 f, .int .i64 (flat P).length, .int .i64 ws.length] 75)).heap[w1.heap.size]? = some _ := HSZ1.out ▸ heap_new wd _
  clear e5' e6' eg' zg' HS
  generalize (wd.alloc (.cells #[.int .i64 f, .int .i64 (flat P).length, .int .i64 ws.length] 75)) = w2 at r12 hl2 ⊢
  have R12 := Lib.hid r12
  have HL2 := Lib.hid hl2
  have e6 : w2.cell? ⟨s.b, 6, none⟩ = some (.pointer (some ⟨s1.g, 0, none⟩)) := by rw [← HB.out]; exact cell_of_heap (r12.heap H1.out.at_.obj (by simp)) rfl
  obtain ⟨c, hc1, hc2⟩ := H1.out.at_.of_
  have eg : w2.cell? ⟨s1.g, f, none⟩ = some (.pointer none) := by
    have := cell_of_heap (r12.heap hc1 (by simp)) (hc2 f hf)
    rwa [ofCell, if_neg HM.out] at this
  have zg : w2.frozen? ⟨s1.g, f, none⟩ = false := frozen_of_heap (r12.heap hc1 (by simp))
  have HC1 := Lib.hid hc1
  clear r12 hl2 hc1 hc2 R12' HSZ1
  go_upto_region 11 with (fail)
  -- the store into the table
  have hgb : s1.b ≠ s1.g := by intro e; have h1 := H1.out.at_.obj; rw [e, HC1.out] at h1; simp at h1
  have r23 : Fr (only [s1.g]) w2 (w2.setCell ⟨s1.g, f, none⟩ (.pointer (some ⟨w1.heap.size, 0, none⟩))) := (Fr.refl _ _).setCell _ _ (.inl (by simp))
  obtain ⟨w3, hw3⟩ : ∃ w3, w3 = w2.setCell ⟨s1.g, f, none⟩ (.pointer (some ⟨w1.heap.size, 0, none⟩)) := ⟨_, rfl⟩
  rw [← hw3] at r23 ⊢
  have HW3 := Lib.hid hw3
  have own3 : w3.ownsRow 0 73 1 (.slice la P.length lk) P.length (P.map fun x => .pointer (some ⟨s1.lp x.1, 0, none⟩)) := by
    have h0 := H1.out.at_.lies
    refine HLV.out ▸ owns_fr (owns_fr h0 R12.out (by simp)) r23 (fun k hk => ?_)
    rcases h0.2 with ⟨e, _⟩ | ⟨g, cap, cur, e, _, hg, _⟩
    · rw [e] at hk; cases hk
    · rw [e] at hk; cases hk
      simp only [only_iff, List.mem_singleton]
      rintro rfl
      have := hg.symm.trans HC1.out; simp at this
  have o3 : w3.heap[s.b]? = some (.cells #[.bool true, .int .i64 words, .int .u32 1, .int .i32 0, .int .u32 0, s1.cv, .pointer (some ⟨s1.g, 0, none⟩), s1.lv] 64 (0, 0)) := by rw [← HB.out]; exact r23.heap (R12.out.heap H1.out.at_.obj (by simp)) (by simpa using hgb)
  have e7 : w3.cell? ⟨s.b, 7, none⟩ = some (.slice la P.length lk) := by rw [← HLV.out]; exact cell_of_heap o3 rfl
  have z7 : w3.frozen? ⟨s.b, 7, none⟩ = false := frozen_of_heap o3
  have hlen64 : P.length ≤ 65536 := Nat.le_trans (len_flat P fun x hx => (H1.out.at_.ok.lt x hx).2.1) (by omega)
  have lne : s.b ∉ (Value.slice la P.length lk).ownBlock := by
    intro hk
    have h0 := H1.out.at_.lies
    rw [HLV.out] at h0
    rcases h0.2 with ⟨e, _⟩ | ⟨g, cap, cur, e, _, hg, _⟩
    · rw [e] at hk; cases hk
    · rw [e] at hk; cases hk
      have h1 := H1.out.at_.obj
      rw [HB.out, hg] at h1; simp at h1
  have lne : some s.b ≠ (Value.slice la P.length lk).ownBlock := fun e => lne (by rw [← e]; rfl)
  have O3 := Lib.hid o3
  have OW3 := Lib.hid own3
  have OA := Lib.hid (own3.alloc (.cells #[.pointer (some ⟨w1.heap.size, 0, none⟩)] 73))
  have R23 := Lib.hid r23
  clear hw3 own3 o3 r23 e6 eg zg
  have hlb : s.b < w3.heap.size := World.block_lt_of_cell? _ _ e7
  go_upto_region 12 with (at_builtin; (refine wpList_append_at rfl _ _ 62 rfl 0 73 (.pointer none) 1 8 Try.underlying62 Try.info73 rfl (by decide) _ P.length _ rfl OA.out 1 [.pointer (some ⟨w1.heap.size, 0, none⟩)] (reads_one _ _ _) ptr_one (by unfold maxLen; omega) (by omega) (Nat.zero_le _) ?_); intro la' lc' w5 ho5 hg5 hb5; go_must (have e75 := hg5.cell (((Fr.refl no w3).alloc _).cell e7 (by simp)) lne); go_must (have z75 := (World.frozen?_of_block (a := ⟨s.b, 7, none⟩) (hg5.block s.b (by simp; omega) lne)).trans ((((Fr.refl no w3).alloc _).frozen (p := ⟨s.b, 7, none⟩) (by simp) hlb).trans z7)))
  have lgr : w5.ownsRow 0 73 1 (.slice la' (P.length + 1) lc') (P.length + 1) ((P.map fun x => .pointer (some ⟨s1.lp x.1, 0, none⟩)) ++ [.pointer (some ⟨w1.heap.size, 0, none⟩)]) := ho5
  have r35 : Fr (fun k => s1.lv.ownBlock = some k) w3 w5 := by
    rw [HLV.out]
    exact ((Fr.refl _ w3).alloc _).grown hg5 (fun k hk => .inl hk)
  have hn5 : ∀ k, (Value.slice la' (P.length + 1) lc').ownBlock = some k → s1.lv.ownBlock = some k ∨ w3.heap.size ≤ k := by
    intro k hk
    rcases hb5 k hk with h1 | h1
    · exact .inl (by rw [HLV.out]; exact h1)
    · exact .inr (by simp at h1; omega)
  obtain ⟨w6, hw6⟩ : ∃ w6, w6 = w5.setCell ⟨s.b, 7, none⟩ (.slice la' (P.length + 1) lc') := ⟨_, rfl⟩
  rw [← hw6]
  have o5 := r35.heap O3.out (by rw [HLV.out]; exact fun e => lne e.symm)
  have o6 : w6.heap[s.b]? = some (.cells #[.bool true, .int .i64 words, .int .u32 1, .int .i32 0, .int .u32 0, s1.cv, .pointer (some ⟨s1.g, 0, none⟩), .slice la' (P.length + 1) lc'] 64 (0, 0)) := by
    rw [hw6]
    have := heap_setCell (o := 7) (v := .slice la' (P.length + 1) lc') o5
    simp only [List.setIfInBounds_toArray, List.set_cons_zero, List.set_cons_succ] at this
    exact this
  have r56 : Fr (only [s.b]) w5 w6 := by rw [hw6]; exact (Fr.refl _ _).setCell _ _ (.inl (by simp))
  have r16 : Fr (foot s1 P) w1 w6 := by
    refine (((R12.out.to (T := foot s1 P)).trans (R23.out.mono fun k hk _ => ?_)).trans (r35.mono fun k hk _ => .inr (.inr (.inr (.inl hk))))).trans (r56.mono fun k hk _ => ?_)
    · simp at hk; exact .inr (.inl hk)
    · simp at hk; exact .inl (hk.trans HB.out.symm)
  have cne : some s.b ≠ (Value.slice ca (flat P).length ck).ownBlock := by
    intro hk
    have h0 := H1.out.at_.code
    rw [HCV.out] at h0
    rcases h0.2 with ⟨e, _⟩ | ⟨g, cap, cur, e, _, hg, _⟩
    · rw [e] at hk; cases hk
    · rw [e] at hk; cases hk
      have h1 := H1.out.at_.obj
      rw [HB.out, hg] at h1; simp at h1
  have own6 : w6.ownsRow 0 52 1 (.slice ca (flat P).length ck) (flat P).length (u32s (flat P)) := by
    have h0 := H1.out.at_.code
    rw [HCV.out] at h0
    refine owns_fr (owns_fr (owns_fr (owns_fr h0 R12.out (by simp)) R23.out (fun k hk => ?_)) r35 (fun k hk => ?_)) r56 (fun k hk => ?_)
    · rcases h0.2 with ⟨e, _⟩ | ⟨g, cap, cur, e, _, hg, _⟩
      · rw [e] at hk; cases hk
      · rw [e] at hk; cases hk
        simp only [only_iff, List.mem_singleton]
        rintro rfl
        have := hg.symm.trans HC1.out; simp at this
    · intro hk'
      rcases h0.2 with ⟨e, _⟩ | ⟨g, cap, cur, e, _, hg, _⟩
      · rw [e] at hk; cases hk
      · rcases H1.out.at_.lies.2 with ⟨e2, _⟩ | ⟨g2, cap2, cur2, e2, _, hg2, _⟩
        · rw [e2] at hk'; cases hk'
        · rw [e] at hk; rw [e2] at hk'
          cases hk; cases hk'
          have := hg.symm.trans hg2; simp at this
    · simp only [only_iff, List.mem_singleton]
      rintro rfl
      exact cne hk.symm
  have rd6 : Reads w6 (.slice xa ws.length xc) 1 ws.length (u32s ws) := by
    refine (HR.out.fr H1.out.fr (fun k hk => HAP.out k hk)).fr r16 (fun k hk hf' => ?_)
    rcases H1.out.ft k hf' with h1 | h1
    · exact HAP.out k hk h1
    · have := HBK.out k hk; omega
  have e5 : w6.cell? ⟨s.b, 5, none⟩ = some (.slice ca (flat P).length ck) := by rw [← HCV.out]; exact cell_of_heap o6 rfl
  have z5 : w6.frozen? ⟨s.b, 5, none⟩ = false := frozen_of_heap o6
  have hlb6 : s.b < w6.heap.size := World.block_lt_of_cell? _ _ e5
  have hlp6 : w6.cell? ⟨w1.heap.size, 1, none⟩ = some (.int .i64 (flat P).length) := by
    have h2 := R23.out.heap HL2.out (by have := H1.out.at_.lt s1.g (.inr (.inl rfl)); simp; omega)
    have h3 := r35.heap h2 (fun e => by have := H1.out.at_.lt w1.heap.size (.inr (.inr (.inr (.inl e)))); omega)
    have h4 := r56.heap h3 (by have := H1.out.at_.lt s1.b (.inl rfl); rw [HB.out] at this; simp; omega)
    exact cell_of_heap h4 rfl
  have OW6 := Lib.hid own6
  have RD6 := Lib.hid rd6
  have R35 := Lib.hid r35
  have HW6 := Lib.hid hw6
  have LGR := Lib.hid lgr
  have HN5 := Lib.hid hn5
  have CPN : some w1.heap.size ≠ (Value.slice ca (flat P).length ck).ownBlock := by
    intro e
    have := H1.out.at_.lt w1.heap.size (.inr (.inr (.inl (by rw [HCV.out]; exact e.symm))))
    omega
  clear hb5 own6 rd6 r35 hw6 lgr hn5 o5 o6 r56 r16 e75 z75 hg5 ho5 e7 z7
  go_upto_region 13 with (at_builtin; (refine wpList_append_at rfl _ _ 23 rfl 0 52 (.int .u32 0) 1 4 Try.underlying23 Try.info52 rfl (by decide) _ (flat P).length _ rfl OW6.out ws.length _ RD6.out u32s_one (by unfold maxLen; omega) (by omega) (Nat.zero_le _) ?_); intro ca' cc' w7 ho7 hg7 hb7; go_must (have e57 := hg7.cell e5 cne); go_must (have z57 := (World.frozen?_of_block (a := ⟨s.b, 5, none⟩) (hg7.block s.b hlb6 cne)).trans z5); go_must (have hlp7 := hg7.cell hlp6 CPN))
  have r67 : Fr (fun k => s1.cv.ownBlock = some k) w6 w7 := by
    rw [HCV.out]
    exact (Fr.refl _ w6).grown hg7 (fun k hk => .inl hk)
  have hn7 : ∀ k, (Value.slice ca' ((flat P).length + ws.length) cc').ownBlock = some k → s1.cv.ownBlock = some k ∨ w6.heap.size ≤ k := by
    intro k hk
    rcases hb7 k hk with h1 | h1
    · exact .inl (by rw [HCV.out]; exact h1)
    · exact .inr (by omega)
  obtain ⟨w8, hw8⟩ : ∃ w8, w8 = w7.setCell ⟨s.b, 5, none⟩ (.slice ca' ((flat P).length + ws.length) cc') := ⟨_, rfl⟩
  rw [← hw8]
  have hto := put_world (w8 := w8) (f := f) (lp := w1.heap.size) (ws := ws) (lv := .slice la' (P.length + 1) lc') (cv := .slice ca' ((flat P).length + ws.length) cc') H1.out.at_ hf HM.out HN.out HLT.out hroom rfl R12.out HL2.out HW3.out R35.out LGR.out HN5.out (by rw [HB.out]; exact HW6.out) r67 ho7 hn7 (by rw [HB.out]; exact hw8)
  have hto2 : CTo w w8 words P s (P ++ [(f, ws)]) (s1.put f w1.heap.size (.slice ca' ((flat P).length + ws.length) cc') (.slice la' (P.length + 1) lc')) := by
    have q1 := H1.out.fr.size
    refine ⟨hto.at_, HB.out, fun k hk => ?_, H1.out.fr.trans' hto.fr fun k hk hn => ?_⟩
    · rcases hto.ft k hk with h1 | h1
      · exact H1.out.ft k h1
      · exact .inr (by omega)
    · rcases H1.out.ft k hk with h1 | h1
      · exact (hn h1).elim
      · exact h1
  have hlp8 : w8.cell? ⟨w1.heap.size, 1, none⟩ = some (.int .i64 (flat P).length) := by
    rw [hw8]
    refine (World.cell?_setCell_other _ _ _ _ ?_).trans hlp7
    have := H1.out.at_.lt s1.b (.inl rfl)
    rw [HB.out] at this
    intro e
    have := congrArg Addr.block e
    dsimp only at this
    omega
  have HTO := Lib.hid hto2
  clear hto hto2 hw8 r67 hn7 hg7 ho7 hb7 e57 z57 hlp7 e5 z5 hlp6
  go_wp2_with fail
  refine (address_any _ _ (by omega)).mono ?_
  rintro e w' ⟨rfl, rfl⟩
  go_wp2_with fail
  go_ret2
  exact ⟨rfl, _, HTO.out⟩

end Go.Proofs.Ytpgmfifieilhkaa
