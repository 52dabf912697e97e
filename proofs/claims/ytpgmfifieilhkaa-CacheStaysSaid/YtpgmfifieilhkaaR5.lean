import Derived.Test.YtpgmfifieilhkaaR4
namespace Go.Proofs.Ytpgmfifieilhkaa
open Go.RowKit

attribute [local go_sem] Program.isFuncB Program.isSliceB

variable {w w' w'' : World} {words : Nat} {P P' P'' : List (Nat × List Nat)}

theorem Try.info82 : (Try.prog.info? 82).map (fun i => (i.zero, i.size, i.bytes)) = some (some (.agg #[.int .i64 0, .int .i64 0, .int .i64 0]), 3, 24) := by kernel_rfl

theorem rows3_app : ∀ (P : List (Nat × List Nat)) (o f : Nat) (ws : List Nat), rows3 o (P ++ [(f, ws)]) = rows3 o P ++ [.int .i64 f, .int .i64 ((o + (flat P).length : Nat) : Int), .int .i64 ws.length]
  | [], o, f, ws => by simp [rows3, flat]
  | (g, us) :: P, o, f, ws => by
    have e : (flat ((g, us) :: P)).length = us.length + (flat P).length := by simp [flat]
    simp only [List.cons_append, rows3, rows3_app P, e, Nat.add_assoc]

theorem reads_buildN (w : World) (cs : Array Value) (size : Nat) (hs : cs.size = size) (e : TypeId) : Reads (w.alloc (.cells cs e)) (.slice (some ⟨w.heap.size, 0, none⟩) 1 1) size 1 cs.toList := by
  refine .inr ⟨_, 1, rfl, Nat.le_refl _, by unfold maxLen; omega, by simp [hs], fun j u hu => ?_⟩
  rw [Addr.add_lit]
  refine cell_of_heap (heap_new w _) ?_
  simpa using hu

theorem ints3_one {a b c : Int} : ∀ u ∈ [Value.int .i64 a, .int .i64 b, .int .i64 c], u.oneCell' = true := by
  intro u hu; simp only [List.mem_cons, List.not_mem_nil, or_false] at hu; rcases hu with rfl | rfl | rfl <;> rfl

structure RTo (w w' : World) (words : Nat) (r : RS) (P' : List (Nat × List Nat)) (r' : RS) : Prop where
  at_ : RefAt w' words P' r'
  b : r'.b = r.b
  ft : ∀ k, rfoot r' k → rfoot r k ∨ w.heap.size ≤ k
  fr : Fr (rfoot r) w w'

set_option maxRecDepth 100000 in
set_option maxHeartbeats 1000000 in
theorem ref_put_ok {r : RS} (h : RefAt w words P r) (f : Nat) (hf : f < 64) (hm : f ∉ P.map (·.1)) (xa : Option Addr) (c : Nat) (ws : List Nat) (hws : Reads w (.slice xa ws.length c) 1 ws.length (u32s ws)) (hlt : ∀ n ∈ ws, n < 4294967296)
    (hn : ws ≠ []) (hr : (flat P).length + ws.length ≤ words) (hap : ∀ k, (Value.slice xa ws.length c).ownBlock = some k → ¬ rfoot r k) :
    Calls Try.prog 19 #[.pointer (some ⟨r.b, 0, none⟩), .int .i64 f, .slice xa ws.length c] w fun e w' => e = .returned (.tuple #[.int .u64 (adr (flat P).length), .int .i64 0]) ∧ ∃ r', RTo w w' words r (P ++ [(f, ws)]) r' := by
  obtain ⟨ca, cc, hcv⟩ := owns_shape h.wds
  obtain ⟨la, lc, hlv⟩ := owns_shape h.rows
  have hpos : 0 < ws.length := List.length_pos_iff.2 hn
  have e2 : w.cell? ⟨r.b, 2, none⟩ = some (.slice la P.length lc) := by rw [← hlv]; exact cell_of_heap h.obj rfl
  have e1 : w.cell? ⟨r.b, 1, none⟩ = some (.slice ca (flat P).length cc) := by rw [← hcv]; exact cell_of_heap h.obj rfl
  have e0 : w.cell? ⟨r.b, 0, none⟩ = some (.int .i64 words) := cell_of_heap h.obj rfl
  have hlen := h.ok.room
  have hfew := h.ok.few
  have hPl : P.length ≤ 65536 := Nat.le_trans (len_flat P fun x hx => (h.ok.lt x hx).2.1) (by omega)
  have H := Lib.hid h
  have HM := Lib.hid hm
  have HW := Lib.hid hws
  have HCV := Lib.hid hcv
  have HLV := Lib.hid hlv
  have HAP := Lib.hid hap
  have HLT := Lib.hid hlt
  have HN := Lib.hid hn
  clear h hm hcv hws hlv hap hlt hn
  have hn1 : ((ws.length : Int) == 0) = false := by rw [beq_eq_false_iff_ne]; omega
  have hn2 : (ws.length == 0) = false := by rw [beq_eq_false_iff_ne]; omega
  go_enter Try.func19, Try.ntmps19
  go_wp2_with fail
  refine (ref_addr H.out f).mono ?_
  rintro e w' ⟨⟨i, hi, he, rfl⟩ | ⟨hno, rfl⟩, rfl⟩
  · exfalso
    exact HM.out (by rw [← Int.ofNat.inj he]; exact List.mem_map_of_mem (List.getElem_mem hi))
  clear hno
  have hgt : ¬ (words : Int) < (flat P).length + ws.length := by omega
  go_wp2_with fail
  go_quiet (fail)
  have rq : Fr no w (w.drewN nq) := (Fr.refl no w).drewN nq
  have HQ := Lib.hid rq
  have e1' := rq.cell e1 (by simp)
  have e2' := rq.cell e2 (by simp)
  have hob := rq.heap H.out.obj (by simp)
  have HOB := Lib.hid hob
  have OA : Hid ((w.drewN nq).ownsRow 0 82 3 (.slice la P.length lc) P.length (rows3 0 P)) := Lib.hid (HLV.out ▸ owns_fr H.out.rows rq (by simp))
  have hrb : r.b < w.heap.size := World.block_lt_of_cell? _ _ e0
  clear rq hob e1 e2 e0
  have hsz : (w.drewN nq).heap.size = w.heap.size := rfl
  have HSZ := Lib.hid hsz
  clear hsz
  generalize w.drewN nq = wq at *
  have OB := Lib.hid (OA.out.alloc (.cells #[.int .i64 f, .int .i64 (flat P).length, .int .i64 ws.length] 82))
  have lne : some r.b ≠ (Value.slice la P.length lc).ownBlock := by
    intro hk
    rcases OA.out.2 with ⟨e, _⟩ | ⟨g, cap, cur, e, _, hg, _⟩
    · rw [e] at hk; cases hk
    · rw [e] at hk; cases hk
      have h1 := HOB.out
      rw [hg] at h1; simp at h1
  have cne : some r.b ≠ (Value.slice ca (flat P).length cc).ownBlock := by
    intro hk
    have h0 := H.out.wds
    rw [HCV.out] at h0
    rcases h0.2 with ⟨e, _⟩ | ⟨g, cap, cur, e, _, hg, _⟩
    · rw [e] at hk; cases hk
    · rw [e] at hk; cases hk
      have h1 := H.out.obj
      rw [hg] at h1; simp at h1
  have z2' : wq.frozen? ⟨r.b, 2, none⟩ = false := frozen_of_heap HOB.out
  have hbq : r.b < wq.heap.size := by rw [HSZ.out]; exact hrb
  have HHQ := Lib.hid hbq
  go_upto_region 10 with (at_builtin; (refine wpList_append_at rfl _ _ 78 rfl 0 82 (.agg #[.int .i64 0, .int .i64 0, .int .i64 0]) 3 24 Try.underlying78 Try.info82 rfl (by decide) _ P.length _ rfl OB.out 1 [.int .i64 f, .int .i64 (flat P).length, .int .i64 ws.length] (reads_buildN _ _ 3 rfl _) ints3_one (by unfold maxLen; omega) (by omega) (Nat.zero_le _) ?_); intro la' lc' w5 ho5 hg5 hb5; go_must (have e25 := hg5.cell (((Fr.refl no wq).alloc _).cell e2' (by simp)) lne); go_must (have z25 := (World.frozen?_of_block (a := ⟨r.b, 2, none⟩) (hg5.block r.b (by simp; omega) lne)).trans ((((Fr.refl no wq).alloc _).frozen (p := ⟨r.b, 2, none⟩) (by simp) hbq).trans z2')))
  have LGR : Hid (w5.ownsRow 0 82 3 (.slice la' (P.length + 1) lc') (P.length + 1) (rows3 0 (P ++ [(f, ws)]))) := Lib.hid (by rw [rows3_app, Nat.zero_add]; exact ho5)
  have r35 : Fr (fun k => r.lv.ownBlock = some k) wq w5 := by
    rw [HLV.out]
    exact ((Fr.refl _ wq).alloc _).grown hg5 (fun k hk => .inl hk)
  have hn5 : ∀ k, (Value.slice la' (P.length + 1) lc').ownBlock = some k → r.lv.ownBlock = some k ∨ wq.heap.size ≤ k := by
    intro k hk
    rcases hb5 k hk with h1 | h1
    · exact .inl (by rw [HLV.out]; exact h1)
    · exact .inr (by simp at h1; omega)
  obtain ⟨w6, hw6⟩ : ∃ w6, w6 = w5.setCell ⟨r.b, 2, none⟩ (.slice la' (P.length + 1) lc') := ⟨_, rfl⟩
  rw [← hw6]
  have o5 := r35.heap HOB.out (by rw [HLV.out]; exact fun e => lne e.symm)
  have o6 : w6.heap[r.b]? = some (.cells #[.int .i64 words, r.wv, .slice la' (P.length + 1) lc'] 80 (0, 0)) := by
    rw [hw6]
    have := heap_setCell (o := 2) (v := .slice la' (P.length + 1) lc') o5
    simp only [List.setIfInBounds_toArray, List.set_cons_zero, List.set_cons_succ] at this
    exact this
  have r56 : Fr (only [r.b]) w5 w6 := by rw [hw6]; exact (Fr.refl _ _).setCell _ _ (.inl (by simp))
  have r16 : Fr (rfoot r) w w6 := by
    refine ((HQ.out.to (T := rfoot r)).trans (r35.mono fun k hk _ => .inr (.inr hk))).trans (r56.mono fun k hk _ => ?_)
    simp at hk; exact .inl hk
  have own6 : w6.ownsRow 0 52 1 (.slice ca (flat P).length cc) (flat P).length (u32s (flat P)) := by
    have h0 := H.out.wds
    rw [HCV.out] at h0
    refine owns_fr (owns_fr (owns_fr h0 HQ.out (by simp)) r35 (fun k hk => ?_)) r56 (fun k hk => ?_)
    · intro hk'
      rcases h0.2 with ⟨e, _⟩ | ⟨g, cap, cur, e, _, hg, _⟩
      · rw [e] at hk; cases hk
      · rcases H.out.rows.2 with ⟨e2, _⟩ | ⟨g2, cap2, cur2, e2, _, hg2, _⟩
        · rw [e2] at hk'; cases hk'
        · rw [e] at hk; rw [e2] at hk'
          cases hk; cases hk'
          have := hg.symm.trans hg2; simp at this
    · simp only [only_iff, List.mem_singleton]
      rintro rfl
      exact cne hk.symm
  have rd6 : Reads w6 (.slice xa ws.length c) 1 ws.length (u32s ws) := HW.out.fr r16 HAP.out
  have e1 : w6.cell? ⟨r.b, 1, none⟩ = some (.slice ca (flat P).length cc) := by rw [← HCV.out]; exact cell_of_heap o6 rfl
  have z1 : w6.frozen? ⟨r.b, 1, none⟩ = false := frozen_of_heap o6
  have hb6 : r.b < w6.heap.size := World.block_lt_of_cell? _ _ e1
  have ON := Lib.hid (owns_new w6 52 1)
  have RC := Lib.hid ((owns_reads own6).fr ((Fr.refl no w6).alloc (.cells #[] 52)) (by simp))
  have HSA : Hid ((w6.alloc (.cells #[] 52)).heap.size = w6.heap.size + 1) := Lib.hid (by simp)
  have RD6 := Lib.hid rd6
  have HW6 := Lib.hid hw6
  have R35 := Lib.hid r35
  have R56 := Lib.hid r56
  have R16 := Lib.hid r16
  have HN5 := Lib.hid hn5
  have O6 := Lib.hid o6
  have HE1 := Lib.hid e1
  have HZ1 := Lib.hid z1
  have HB6 := Lib.hid hb6
  clear hb5 own6 rd6 r35 hw6 hn5 o5 o6 r56 r16 e25 z25 hg5 ho5 e1' e2' z2' z1 lne cne hbq hb6
  have HPR := Lib.hid (show ∀ k, (Value.slice xa ws.length c).ownBlock = some k → k ≠ w6.heap.size by
    intro k hk
    have : k < w6.heap.size := by
      have hRD := RD6.out
      obtain ⟨x, l, hxl⟩ : ∃ x l, ws = x :: l := by cases ws with | nil => exact (HN.out rfl).elim | cons x l => exact ⟨x, l, rfl⟩
      obtain ⟨b, o, he, hc⟩ := hRD.at1 (k := 0) (u := .int .u32 x) (by simp [u32s, hxl])
      rw [he] at hk
      cases hk
      exact World.block_lt_of_cell? _ _ hc
    omega)
  have e1a := ((Fr.refl no w6).alloc (.cells #[] 52)).cell e1 (by simp)
  go_upto_region 11 with (at_builtin; first
    | ((refine wpList_append_at rfl (.tmp 62) _ 23 rfl 0 52 (.int .u32 0) 1 4 Try.underlying23 Try.info52 rfl (by decide) _ 0 [] rfl (owns_base ON.out (fun _ _ => Nat.zero_le _)) (flat P).length (u32s (flat P)) RC.out u32s_one (by unfold maxLen; omega) (by omega) (Nat.zero_le _) ?_); intro va vc w8 ho8 hg8 hb8; simp only [Nat.zero_add, List.nil_append] at ho8 hb8;
        go_must (have HR8 : Hid (Reads w8 (.slice xa ws.length c) 1 ws.length (u32s ws)) := Lib.hid (RD6.out.fr (((Fr.refl (only [w6.heap.size]) w6).alloc (.cells #[] 52)).grown hg8 (fun k hk => .inl (by cases hk; simp))) (fun k hk => by simpa using HPR.out k hk)));
        go_must (have R68 : Hid (Fr no w6 w8) := Lib.hid (((Fr.refl no w6).alloc (.cells #[] 52)).grown hg8 (fun k hk => .inr (Nat.le_of_eq (Option.some.inj hk))))))
    | ((refine wpList_append_at rfl (.tmp 67) _ 23 rfl 0 52 (.int .u32 0) 1 4 Try.underlying23 Try.info52 rfl (by decide) _ (flat P).length _ rfl ho8 ws.length _ HR8.out u32s_one (by unfold maxLen; omega) (by omega) (Nat.zero_le _) ?_); intro ya yc w9 ho9 hg9 hb9;
        go_must (have R89 : Hid (Fr no w6 w9) := Lib.hid (R68.out.grown hg9 (fun k hk => .inr (by rcases hb8 k hk with h | h <;> first | (cases h; exact Nat.le_refl _) | omega | (simp at h; omega)))));
        go_must (have e19 := R89.out.cell HE1.out (by simp));
        go_must (have z19 := (R89.out.frozen (p := ⟨r.b, 1, none⟩) (by simp) HB6.out).trans HZ1.out)))
  obtain ⟨w10, hw10⟩ : ∃ w10, w10 = w9.setCell ⟨r.b, 1, none⟩ (.slice ya ((flat P).length + ws.length) yc) := ⟨_, rfl⟩
  rw [← hw10]
  have r910 : Fr (only [r.b]) w9 w10 := by rw [hw10]; exact (Fr.refl _ _).setCell _ _ (.inl (by simp))
  have o10 : w10.heap[r.b]? = some (.cells #[.int .i64 words, .slice ya ((flat P).length + ws.length) yc, .slice la' (P.length + 1) lc'] 80 (0, 0)) := by
    rw [hw10]
    have := heap_setCell (o := 1) (v := .slice ya ((flat P).length + ws.length) yc) (R89.out.heap O6.out (by simp))
    simp only [List.setIfInBounds_toArray, List.set_cons_zero, List.set_cons_succ] at this
    exact this
  have yn : ∀ k, (Value.slice ya ((flat P).length + ws.length) yc).ownBlock = some k → w6.heap.size ≤ k := by
    intro k hk
    rcases hb9 k hk with h | h
    · rcases hb8 k h with h | h <;> first | (cases h; exact Nat.le_refl _) | omega | (simp at h; omega)
    · have := R68.out.size; omega
  have ln : ∀ k, (Value.slice la' (P.length + 1) lc').ownBlock = some k → k ≠ r.b := by
    intro k hk e
    rcases LGR.out.2 with ⟨e', _⟩ | ⟨g, cap, cur, e', _, hg, _⟩
    · rw [e'] at hk; cases hk
    · rw [e'] at hk; cases hk
      have h1 := R56.out
      have h2 : w6.heap[r.b]? = some (.cells #[.int .i64 words, r.wv, .slice la' (P.length + 1) lc'] 80 (0, 0)) := O6.out
      have h3 := R35.out.heap HOB.out (fun e2 => by
        rcases H.out.rows.2 with ⟨e3, _⟩ | ⟨g3, cap3, cur3, e3, _, hg3, _⟩
        · rw [e3] at e2; cases e2
        · rw [e3] at e2; cases e2
          have := hg3.symm.trans H.out.obj; simp at this)
      dsimp only at e
      rw [e] at hg
      rw [hg] at h3; simp at h3
  have hto : RTo w w10 words r (P ++ [(f, ws)]) ⟨r.b, .slice ya ((flat P).length + ws.length) yc, .slice la' (P.length + 1) lc'⟩ := by
    have q1 := HQ.out.size
    have q2 := R35.out.size
    have q3 := R56.out.size
    refine ⟨⟨o10, ?_, ?_, ?_⟩, rfl, ?_, ?_⟩
    · rw [flat_app, flat_one, List.length_append, u32s, List.map_append]
      exact owns_fr ho9 r910 (fun k hk => by have := yn k hk; simp; omega)
    · rw [List.length_append, List.length_singleton]
      exact owns_fr (owns_fr (owns_fr LGR.out R56.out (fun k hk => by simpa using ln k hk)) R89.out (by simp)) r910 (fun k hk => by simpa using ln k hk)
    · refine ⟨?_, ?_, ?_, H.out.ok.few⟩
      · rw [List.map_append, List.nodup_append]
        refine ⟨H.out.ok.nd, by simp, ?_⟩
        intro a ha b hb
        simp at hb
        subst hb
        exact fun e => HM.out (e ▸ ha)
      · intro x hx
        rcases List.mem_append.1 hx with hx | hx
        · exact H.out.ok.lt x hx
        · simp at hx; subst hx; exact ⟨hf, HN.out, HLT.out⟩
      · rw [flat_app, flat_one, List.length_append]; exact hr
    · rintro k (rfl | hk | hk)
      · exact .inl (.inl rfl)
      · have := yn k hk; exact .inr (by omega)
      · rcases HN5.out k hk with h | h
        · exact .inl (.inr (.inr h))
        · exact .inr (by omega)
    · exact ((R16.out.trans (R89.out.to (T := rfoot r))).trans (r910.mono fun k hk _ => by simp at hk; exact .inl hk))
  have HTO := Lib.hid hto
  clear hto hw10 r910 o10 yn ln e19 z19 ho9 hg9 hb9 ho8 hg8 hb8 e1 e1a
  go_wp2_with fail
  refine (ref_address _ _ (by omega)).mono ?_
  rintro e w' ⟨rfl, rfl⟩
  go_wp2_with fail
  go_ret2
  exact ⟨rfl, _, HTO.out⟩

end Go.Proofs.Ytpgmfifieilhkaa
