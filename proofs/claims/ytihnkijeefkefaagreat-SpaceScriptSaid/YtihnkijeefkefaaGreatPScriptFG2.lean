import Derived.Test.YtihnkijeefkefaaGreatPScriptG1
import Derived.Test.YtihnkijeefkefaaGreatQ19
import Derived.Test.YtihnkijeefkefaaGreatQ17L
import Derived.ChangeKeysEq
import Derived.Test.YtihnkijeefkefaaGreatQ25
import Derived.Test.YtihnkijeefkefaaGreatR6
import Derived.Test.YtihnkijeefkefaaGreatR0
set_option linter.unusedSimpArgs false
set_option linter.unusedVariables false
set_option linter.unusedSectionVars false
set_option linter.unnecessarySimpa false
set_option maxRecDepth 100000
/- A copy of a space. -/
namespace Go.Proofs.YtihnkijeefkefaaGreat
open Go.RowKit

attribute [local go_sem] Program.isFuncB Program.isSliceB

variable {w w' w'' w0 w1 : World} {O R X : Nat → Prop} {p q : Nat} {s s' t t' : Zp} {z : Pz}

theorem owns_low {B : Nat} {e : TypeId} {k n : Nat} {v : Value} {xs : List Value} (h : w.ownsRow B e k v n xs) : w.ownsRow 0 e k v n xs := by
 refine ⟨h.1, h.2.imp id ?_⟩
 rintro ⟨g, cap, cur, e, hb, rest⟩
 exact ⟨g, cap, cur, e, Nat.zero_le _, rest⟩
theorem TapeAt.low {B t a : Nat} {inp : List Nat} {l : List Dd} {iv lv : Value} (h : TapeAt w B t inp a l iv lv) : TapeAt w 0 t inp a l iv lv := ⟨h.obj, owns_low h.inn, owns_low h.out, h.le, Nat.zero_le _, h.small⟩
set_option maxHeartbeats 2000000 in
theorem tcopy_ok {B t a : Nat} {inp : List Nat} {l : List Dd} {iv lv : Value} (w : World) (h : TapeAt w B t inp a l iv lv) (hi : inp.length ≤ 100000) (hl : l.length ≤ 1000000) :
  Calls Tryz.prog 107 #[.pointer (some ⟨t, 0, none⟩)] w fun e w' => ∃ t' iv' lv', e = .returned (.pointer (some ⟨t', 0, none⟩)) ∧ TapeAt w' w.heap.size t' inp a l iv' lv' ∧ Fr no w w' := by
 obtain ⟨ia, ic, rfl⟩ := owns_shape h.inn
 obtain ⟨la, lc, rfl⟩ := owns_shape h.out
 have NN := Lib.hid (none_at w t true _ _ _ h.obj)
 have H := Lib.hid h
 clear h
 go_enter Tryz.func107, Tryz.ntmps107
 go_wp2_with fail
 refine NN.out.mono ?_
 rintro e w' ⟨rfl, rfl⟩
 go_upto_region 3 with (fail)
 have SS : Hid (∀ w', Fr no w w' → (fun w' => w'.cell? ⟨t, 1, none⟩ = some (.slice ia inp.length ic) ∧ w'.cell? ⟨t, 2, none⟩ = some (.int .i64 a) ∧ w'.cell? ⟨t, 3, none⟩ = some (.slice la l.length lc)) w') := Lib.hid (fun w' r => ⟨cell_of_heap (r.heap H.out.obj (by simp)) rfl, cell_of_heap (r.heap H.out.obj (by simp)) rfl, cell_of_heap (r.heap H.out.obj (by simp)) rfl⟩)
 have R1 := Lib.hid (Fr.refl no w).drew
 have S1 := Lib.hid (SS.out _ R1.out)
 have CB := Lib.hid (clone_bytes w.drew _ inp ((owns_reads H.out.inn).fr R1.out (by simp)) (by omega))
 refine Lex.region [4, 13, 15] [17] (by kernel_rfl) (by kernel_rfl) ?_
 refine Lex.opens (fun w' => w'.cell? ⟨t, 1, none⟩ = some (.slice ia inp.length ic) ∧ w'.cell? ⟨t, 2, none⟩ = some (.int .i64 a) ∧ w'.cell? ⟨t, 3, none⟩ = some (.slice la l.length lc)) (S1.out) ?_
 repeat ((first | refine Lex.skips (by rfl) ?_ | (refine Lex.quiet (v := ?_) (by rfl) (by rfl) ?_ ?_; rotate_left; focus (intro w' hS'; go_simp; try rfl))); try simp only [Act.put, List.setIfInBounds_toArray, List.set_cons_zero, List.set_cons_succ])
 refine Lex.loud (by rfl) (by rfl) ?_
 intro K' hK'
 go_simp
 refine CB.out.mono ?_
 rintro e w2 ⟨x, rfl, hx, r2⟩
 obtain ⟨xa, xc, rfl⟩ := owns_shape hx
 have R2 := Lib.hid (R1.out.trans r2)
 have S2 := Lib.hid (SS.out _ R2.out)
 have HX2 := Lib.hid hx
 have CD := Lib.hid (clone_deeds w2 _ l ((owns_reads H.out.out).fr R2.out (by simp)) (by omega))
 clear hx r2
 refine hK' _ _ (S2.out) ?_
 clear hK'
 try simp only [Act.put, List.setIfInBounds_toArray, List.set_cons_zero, List.set_cons_succ]
 repeat ((first | refine Lex.skips (by rfl) ?_ | (refine Lex.quiet (v := ?_) (by rfl) (by rfl) ?_ ?_; rotate_left; focus (intro w' hS'; go_simp; try rfl))); try simp only [Act.put, List.setIfInBounds_toArray, List.set_cons_zero, List.set_cons_succ])
 refine Lex.loud (by rfl) (by rfl) ?_
 intro K' hK'
 go_simp
 refine CD.out.mono ?_
 rintro e w3 ⟨y, rfl, hy, r3⟩
 obtain ⟨ya, yc, rfl⟩ := owns_shape hy
 have R3 := Lib.hid (R2.out.trans r3)
 have S3 := Lib.hid (SS.out _ R3.out)
 have r4 := (Fr.refl no w3).alloc (.cells #[.bool true, .slice xa inp.length xc, .int .i64 a, .slice ya l.length yc] 181)
 have R4 := Lib.hid (R3.out.trans r4)
 have S4 := Lib.hid (SS.out _ R4.out)
 have HT : Hid (TapeAt (w3.alloc (.cells #[.bool true, .slice xa inp.length xc, .int .i64 a, .slice ya l.length yc] 181)) w.heap.size w3.heap.size inp a l (.slice xa inp.length xc) (.slice ya l.length yc)) :=
  Lib.hid ⟨heap_new w3 _, owns_fr HX2.out (r3.trans r4) (by simp), ⟨hy.1, (owns_fr hy r4 (by simp)).2.imp id (fun ⟨g, cap, cur, e, hb, rest⟩ => ⟨g, cap, cur, e, Nat.le_trans R2.out.size hb, rest⟩)⟩, H.out.le, R3.out.size, H.out.small⟩
 clear hy r3 r4
 refine hK' _ _ (S3.out) ?_
 clear hK'
 try simp only [Act.put, List.setIfInBounds_toArray, List.set_cons_zero, List.set_cons_succ]
 repeat ((first | refine Lex.skips (by rfl) ?_ | (refine Lex.quiet (v := ?_) (by rfl) (by rfl) ?_ ?_; rotate_left; focus (intro w' hS'; go_simp; try rfl))); try simp only [Act.put, List.setIfInBounds_toArray, List.set_cons_zero, List.set_cons_succ])
 refine Lex.loud (by rfl) (by rfl) ?_
 intro K' hK'
 go_simp
 refine hK' _ _ (S4.out) ?_
 clear hK'
 try simp only [Act.put, List.setIfInBounds_toArray, List.set_cons_zero, List.set_cons_succ]
 repeat ((first | refine Lex.skips (by rfl) ?_ | (refine Lex.quiet (v := ?_) (by rfl) (by rfl) ?_ ?_; rotate_left; focus (intro w' hS'; go_simp; try rfl))); try simp only [Act.put, List.setIfInBounds_toArray, List.set_cons_zero, List.set_cons_succ])
 refine Lex.done ?_
 refine Lex.ends ?_
 go_wp2_with fail
 go_ret
 exact ⟨_, rfl, ⟨_, _, HT.out⟩, R4.out⟩
theorem copy1_ok (w : World) : Calls Tryz.prog 110 #[] w fun e w' => e = .returned (.tuple #[]) ∧ w = w' := by
 go_enter Tryz.func110, Tryz.ntmps110
 go_wp2_with fail
 go_end0
 exact ⟨rfl, rfl⟩
theorem SpAt.copied {w7 : World} {q2 g2 c2 t2 p2 m2 m3 : Nat} {tv2 lv2 kv2 : Value} (h : SpAt w O R p s z) (r : Fr no w w7) (ho : w7.heap[p2]? = some (.cells (spCells s ⟨z.da, z.dc, z.fa, z.fc, z.iv, q2, g2, c2, t2, tv2, lv2, kv2⟩) 94 (0, 0)))
  (hm : MemAt w7 q2 g2 s.b.length c2 s.b) (ht : TapeAt w7 m2 t2 s.inp s.pos s.ds tv2 lv2) (hk : w7.ownsRow m3 121 4 kv2 s.ls.length (linksC s.ls)) (hp : w.heap.size ≤ p2) (hq : w.heap.size ≤ q2) (hg : w.heap.size ≤ g2) (hgm : g2 < m2) (hm2 : w.heap.size ≤ m2) (hm3 : w.heap.size ≤ m3) :
  ∃ O' R' z', SpAt w7 O' R' p2 s z' ∧ (∀ k, O' k → w.heap.size ≤ k) ∧ (∀ k, R' k → R k ∨ w.heap.size ≤ k) := by
 have hbt := ht.bt
 have hO : ∀ k, (k = p2 ∨ k = g2 ∨ k = t2 ∨ lv2.ownBlock = some k ∨ kv2.ownBlock = some k) → w.heap.size ≤ k := fun k hk2 => by
  rcases hk2 with rfl | rfl | rfl | e | e
  ·exact hp
  ·exact hg
  ·omega
  ·have := (ht.out.lt k e).1; omega
  ·have := (hk.lt k e).1; omega
 obtain ⟨cur, hgb, -⟩ := hm.block
 refine ⟨fun k => k = p2 ∨ k = g2 ∨ k = t2 ∨ lv2.ownBlock = some k ∨ kv2.ownBlock = some k, fun k => R k ∨ k = q2 ∨ tv2.ownBlock = some k, ⟨z.da, z.dc, z.fa, z.fc, z.iv, q2, g2, c2, t2, tv2, lv2, kv2⟩, ⟨ho, hm, ht.low, owns_low hk, (h.ro.fr r (fun k hk _ => by simp)).mono (fun k hk => .inl hk), h.ok, .inl rfl, .inr (.inl rfl), .inr (.inr (.inl rfl)), fun k hk => .inr (.inr (.inr (.inl hk))), fun k hk => .inr (.inr (.inr (.inr hk))), .inr (.inl rfl), fun k hk => .inr (.inr hk), fun k hk2 hr => ?_, fun k hk2 => ?_⟩, hO, fun k hk2 => ?_⟩
 ·rcases hr with hr | rfl | hr
  ·have := h.lt k (.inr hr)
   have := hO k hk2
   omega
  ·rcases hk2 with e | e | e | e | e
   ·exact block_ne hm.obj ho (by decide) e
   ·exact hm.ne e
   ·exact block_ne hm.obj ht.obj (by decide) e
   ·exact row_block_ne ht.out hm.obj (by decide) e
   ·exact row_block_ne hk hm.obj (by decide) e
  ·rcases hk2 with rfl | rfl | rfl | e | e
   ·exact row_block_ne ht.inn ho (by decide) hr
   ·have := (ht.inn.lt _ hr).1; omega
   ·exact row_block_ne ht.inn ht.obj (by decide) hr
   ·exact rows_ne ht.inn ht.out (by decide) k hr e
   ·exact rows_ne ht.inn hk (by decide) k hr e
 ·rcases hk2 with (rfl | rfl | rfl | e | e) | (e | rfl | e)
  ·exact (Array.getElem?_eq_some_iff.1 ho).1
  ·exact (Array.getElem?_eq_some_iff.1 hgb).1
  ·exact (Array.getElem?_eq_some_iff.1 ht.obj).1
  ·exact (ht.out.lt k e).2
  ·exact (hk.lt k e).2
  ·exact Nat.lt_of_lt_of_le (h.lt k (.inr e)) r.size
  ·exact (Array.getElem?_eq_some_iff.1 hm.obj).1
  ·exact (ht.inn.lt k e).2
 ·rcases hk2 with e | rfl | e
  ·exact .inl e
  ·exact .inr hq
  ·have := (ht.inn.lt k e).1; exact .inr (by omega)
set_option maxHeartbeats 4000000 in
theorem scopy_ok (w : World) (h : SpAt w O R p s z) (hl : s.ds.length ≤ 1000000) :
  Calls Tryz.prog 45 #[.pointer (some ⟨p, 0, none⟩)] w fun e w' => ∃ p' O' R' z', e = .returned (.pointer (some ⟨p', 0, none⟩)) ∧ SpAt w' O' R' p' s z' ∧ (∀ k, O' k → w.heap.size ≤ k) ∧ (∀ k, R' k → R k ∨ w.heap.size ≤ k) ∧ Fr no w w' := by
 obtain ⟨ia, ic, hiv⟩ := h.ro.now.2.shape
 obtain ⟨da, dc, fa, fc, iv, qq, gg, cc, tt, tv, lv, kv⟩ := z
 dsimp only at hiv
 subst hiv
 have NN := Lib.hid (snone_ok w h)
 have H := Lib.hid h
 have HLS := Lib.hid h.ok.ll
 have HDS := Lib.hid hl
 clear h hl
 go_enter Tryz.func45, Tryz.ntmps45
 go_wp2_with fail
 refine NN.out.mono ?_
 rintro e w' ⟨rfl, rfl⟩
 go_upto_region 3 with (fail)
 have SS : Hid (∀ w', Fr no w w' → (fun w' => w'.cell? ⟨p, 6, none⟩ = some (.slice ia s.inp.length ic) ∧ w'.cell? ⟨p, 7, none⟩ = some (.int .i64 s.b.length) ∧ w'.cell? ⟨p, 8, none⟩ = some (.pointer (some ⟨qq, 0, none⟩)) ∧ w'.cell? ⟨p, 9, none⟩ = some (.pointer (some ⟨tt, 0, none⟩)) ∧ w'.cell? ⟨p, 11, none⟩ = some (.int .u64 (flr s.m)) ∧ w'.cell? ⟨p, 12, none⟩ = some (.int .u64 s.at_) ∧ w'.cell? ⟨p, 13, none⟩ = some (.int .i64 s.f) ∧ w'.cell? ⟨p, 14, none⟩ = some (.int .i64 s.pc) ∧ w'.cell? ⟨p, 15, none⟩ = some (kv) ∧ At w' p 4 [.slice da s.m.d.length dc, .slice fa s.m.f.length fc] ∧ At w' p 16 [.int .i64 s.e.1, .int .i64 s.e.2]) w') := Lib.hid (fun w' r => by
  have ho := r.heap H.out.obj (by simp)
  exact ⟨cell_of_heap ho rfl, cell_of_heap ho rfl, cell_of_heap ho rfl, cell_of_heap ho rfl, cell_of_heap ho rfl, cell_of_heap ho rfl, cell_of_heap ho rfl, cell_of_heap ho rfl, cell_of_heap ho rfl, at_mid ho (fun j v hj => by
   match j, hj with
   | 0, h => cases h; rfl
   | 1, h => cases h; rfl), at_mid ho (fun j v hj => by
   match j, hj with
   | 0, h => cases h; rfl
   | 1, h => cases h; rfl)⟩)
 have R1 := Lib.hid (Fr.refl no w).drew
 have S1 := Lib.hid (SS.out _ R1.out)
 have HMC := Lib.hid (mcopy_ok w.drew (H.out.mem.fr R1.out) H.out.ok.bl (by have := H.out.ok.al; have := H.out.ok.lo; have := flr_ge s.m; omega))
 refine Lex.region [16, 21, 42, 48] [50] (by kernel_rfl) (by kernel_rfl) ?_
 refine Lex.opens (fun w' => w'.cell? ⟨p, 6, none⟩ = some (.slice ia s.inp.length ic) ∧ w'.cell? ⟨p, 7, none⟩ = some (.int .i64 s.b.length) ∧ w'.cell? ⟨p, 8, none⟩ = some (.pointer (some ⟨qq, 0, none⟩)) ∧ w'.cell? ⟨p, 9, none⟩ = some (.pointer (some ⟨tt, 0, none⟩)) ∧ w'.cell? ⟨p, 11, none⟩ = some (.int .u64 (flr s.m)) ∧ w'.cell? ⟨p, 12, none⟩ = some (.int .u64 s.at_) ∧ w'.cell? ⟨p, 13, none⟩ = some (.int .i64 s.f) ∧ w'.cell? ⟨p, 14, none⟩ = some (.int .i64 s.pc) ∧ w'.cell? ⟨p, 15, none⟩ = some (kv) ∧ At w' p 4 [.slice da s.m.d.length dc, .slice fa s.m.f.length fc] ∧ At w' p 16 [.int .i64 s.e.1, .int .i64 s.e.2]) (S1.out) ?_
 repeat ((first | refine Lex.skips (by rfl) ?_ | (refine Lex.into (by rfl) (by rfl) _ _ rfl _ _ rfl _ _ ((fun _ h => h.2.2.2.2.2.2.2.2.2.1)) Tryz.underlying25 rfl (by rw [Tryz.infoMod]; rfl) ?_) | (refine Lex.into (by rfl) (by rfl) _ _ rfl _ _ rfl _ _ ((fun _ h => h.2.2.2.2.2.2.2.2.2.2)) Tryz.underlying43 rfl (by rw [Tryz.infoEnd]; rfl) ?_) | (refine Lex.quiet (v := ?_) (by rfl) (by rfl) ?_ ?_; rotate_left; focus (intro w' hS'; go_simp; try rfl))); try simp only [Act.put, List.setIfInBounds_toArray, List.set_cons_zero, List.set_cons_succ])
 refine Lex.loud (by rfl) (by rfl) ?_
 intro K' hK'
 go_simp
 refine HMC.out.mono ?_
 rintro e w2 ⟨q2, g2, c2, rfl, hm2, hq2, hg2, r2⟩
 have R2 := Lib.hid (R1.out.trans r2)
 have S2 := Lib.hid (SS.out _ R2.out)
 have HM2 := Lib.hid hm2
 have HQ2 : Hid (w.heap.size ≤ q2 ∧ w.heap.size ≤ g2 ∧ g2 < w2.heap.size) := Lib.hid ⟨hq2, hg2, by obtain ⟨cur, hg, -⟩ := hm2.block; exact (Array.getElem?_eq_some_iff.1 hg).1⟩
 have HTC := Lib.hid (tcopy_ok w2 (H.out.fr R2.out).tape H.out.ok.il HDS.out)
 clear hm2 hq2 hg2 r2
 refine hK' _ _ (S2.out) ?_
 clear hK'
 try simp only [Act.put, List.setIfInBounds_toArray, List.set_cons_zero, List.set_cons_succ]
 repeat ((first | refine Lex.skips (by rfl) ?_ | (refine Lex.into (by rfl) (by rfl) _ _ rfl _ _ rfl _ _ ((fun _ h => h.2.2.2.2.2.2.2.2.2.1)) Tryz.underlying25 rfl (by rw [Tryz.infoMod]; rfl) ?_) | (refine Lex.into (by rfl) (by rfl) _ _ rfl _ _ rfl _ _ ((fun _ h => h.2.2.2.2.2.2.2.2.2.2)) Tryz.underlying43 rfl (by rw [Tryz.infoEnd]; rfl) ?_) | (refine Lex.quiet (v := ?_) (by rfl) (by rfl) ?_ ?_; rotate_left; focus (intro w' hS'; go_simp; try rfl))); try simp only [Act.put, List.setIfInBounds_toArray, List.set_cons_zero, List.set_cons_succ])
 refine Lex.loud (by rfl) (by rfl) ?_
 intro K' hK'
 go_simp
 refine HTC.out.mono ?_
 rintro e w3 ⟨t2, tv2, lv2, rfl, ht3, r3⟩
 have R3 := Lib.hid (R2.out.trans r3)
 have S3 := Lib.hid (SS.out _ R3.out)
 have HM3 := Lib.hid (HM2.out.fr r3)
 have HT3 := Lib.hid ht3
 have S23 : Hid (w2.heap.size ≤ w3.heap.size) := Lib.hid r3.size
 have HLC := Lib.hid (clone_links w3 _ s.ls.length _ (owns_reads (H.out.fr R3.out).links) (linksC_one s.ls) (by have := HLS.out; omega))
 clear ht3 r3
 refine hK' _ _ (S3.out) ?_
 clear hK'
 try simp only [Act.put, List.setIfInBounds_toArray, List.set_cons_zero, List.set_cons_succ]
 repeat ((first | refine Lex.skips (by rfl) ?_ | (refine Lex.into (by rfl) (by rfl) _ _ rfl _ _ rfl _ _ ((fun _ h => h.2.2.2.2.2.2.2.2.2.1)) Tryz.underlying25 rfl (by rw [Tryz.infoMod]; rfl) ?_) | (refine Lex.into (by rfl) (by rfl) _ _ rfl _ _ rfl _ _ ((fun _ h => h.2.2.2.2.2.2.2.2.2.2)) Tryz.underlying43 rfl (by rw [Tryz.infoEnd]; rfl) ?_) | (refine Lex.quiet (v := ?_) (by rfl) (by rfl) ?_ ?_; rotate_left; focus (intro w' hS'; go_simp; try rfl))); try simp only [Act.put, List.setIfInBounds_toArray, List.set_cons_zero, List.set_cons_succ])
 refine Lex.loud (by rfl) (by rfl) ?_
 intro K' hK'
 go_simp
 refine HLC.out.mono ?_
 rintro e w4 ⟨kx, rfl, hk4, r4⟩
 obtain ⟨ka, kc, rfl⟩ := owns_shape hk4
 have R4 := Lib.hid (R3.out.trans r4)
 have S4 := Lib.hid (SS.out _ R4.out)
 have HM4 := Lib.hid (HM3.out.fr r4)
 have HT4 := Lib.hid (HT3.out.frx r4 (by simp) (by simp) (by simp))
 have HK4 := Lib.hid hk4
 have S34 : Hid (w3.heap.size ≤ w4.heap.size) := Lib.hid r4.size
 clear hk4 r4
 refine hK' _ _ (S4.out) ?_
 clear hK'
 try simp only [Act.put, List.setIfInBounds_toArray, List.set_cons_zero, List.set_cons_succ]
 repeat ((first | refine Lex.skips (by rfl) ?_ | (refine Lex.into (by rfl) (by rfl) _ _ rfl _ _ rfl _ _ ((fun _ h => h.2.2.2.2.2.2.2.2.2.1)) Tryz.underlying25 rfl (by rw [Tryz.infoMod]; rfl) ?_) | (refine Lex.into (by rfl) (by rfl) _ _ rfl _ _ rfl _ _ ((fun _ h => h.2.2.2.2.2.2.2.2.2.2)) Tryz.underlying43 rfl (by rw [Tryz.infoEnd]; rfl) ?_) | (refine Lex.quiet (v := ?_) (by rfl) (by rfl) ?_ ?_; rotate_left; focus (intro w' hS'; go_simp; try rfl))); try simp only [Act.put, List.setIfInBounds_toArray, List.set_cons_zero, List.set_cons_succ])
 have r5 := (Fr.refl no w4).alloc (.cells #[.int .u32 0, .int .i32 0, .int .u32 0, .int .i64 0, .slice da s.m.d.length dc, .slice fa s.m.f.length fc, .slice ia s.inp.length ic, .int .i64 s.b.length, .pointer (some ⟨q2, 0, none⟩), .pointer (some ⟨t2, 0, none⟩), .int .i64 0, .int .u64 (flr s.m), .int .u64 s.at_, .int .i64 s.f, .int .i64 s.pc, .slice ka s.ls.length kc, .int .i64 s.e.1, .int .i64 s.e.2] 94)
 have HB5 := Lib.hid (heap_new w4 (.cells #[.int .u32 0, .int .i32 0, .int .u32 0, .int .i64 0, .slice da s.m.d.length dc, .slice fa s.m.f.length fc, .slice ia s.inp.length ic, .int .i64 s.b.length, .pointer (some ⟨q2, 0, none⟩), .pointer (some ⟨t2, 0, none⟩), .int .i64 0, .int .u64 (flr s.m), .int .u64 s.at_, .int .i64 s.f, .int .i64 s.pc, .slice ka s.ls.length kc, .int .i64 s.e.1, .int .i64 s.e.2] 94))
 have R5 := Lib.hid (R4.out.trans r5)
 have S5 := Lib.hid (SS.out _ R5.out)
 have HM5 := Lib.hid (HM4.out.fr r5)
 have HT5 := Lib.hid (HT4.out.frx r5 (by simp) (by simp) (by simp))
 have HK5 := Lib.hid (owns_fr HK4.out r5 (by simp))
 clear r5
 refine Lex.loud (by rfl) (by rfl) ?_
 intro K' hK'
 go_simp
 refine hK' _ _ (S5.out) ?_
 clear hK'
 try simp only [Act.put, List.setIfInBounds_toArray, List.set_cons_zero, List.set_cons_succ]
 repeat ((first | refine Lex.skips (by rfl) ?_ | (refine Lex.quiet (v := ?_) (by rfl) (by rfl) ?_ ?_; rotate_left; focus (intro w' hS'; go_simp; try rfl))); try simp only [Act.put, List.setIfInBounds_toArray, List.set_cons_zero, List.set_cons_succ])
 refine Lex.done ?_
 refine Lex.ends ?_
 clear S1 S2 S3 S4 S5 HMC HTC HLC
 go_upto_region 4 with (fail)
 have HF0 : Hid ((w4.alloc (.cells #[.int .u32 0, .int .i32 0, .int .u32 0, .int .i64 0, .slice da s.m.d.length dc, .slice fa s.m.f.length fc, .slice ia s.inp.length ic, .int .i64 s.b.length, .pointer (some ⟨q2, 0, none⟩), .pointer (some ⟨t2, 0, none⟩), .int .i64 0, .int .u64 (flr s.m), .int .u64 s.at_, .int .i64 s.f, .int .i64 s.pc, .slice ka s.ls.length kc, .int .i64 s.e.1, .int .i64 s.e.2] 94)).drew.cell? ⟨p, 10, none⟩ = some (.int .i64 s.fuel)) := Lib.hid (cell_of_heap (w := (w4.alloc (.cells #[.int .u32 0, .int .i32 0, .int .u32 0, .int .i64 0, .slice da s.m.d.length dc, .slice fa s.m.f.length fc, .slice ia s.inp.length ic, .int .i64 s.b.length, .pointer (some ⟨q2, 0, none⟩), .pointer (some ⟨t2, 0, none⟩), .int .i64 0, .int .u64 (flr s.m), .int .u64 s.at_, .int .i64 s.f, .int .i64 s.pc, .slice ka s.ls.length kc, .int .i64 s.e.1, .int .i64 s.e.2] 94)).drew) (R5.out.heap H.out.obj (by simp)) rfl)
 have HB6 : Hid ((w4.alloc (.cells #[.int .u32 0, .int .i32 0, .int .u32 0, .int .i64 0, .slice da s.m.d.length dc, .slice fa s.m.f.length fc, .slice ia s.inp.length ic, .int .i64 s.b.length, .pointer (some ⟨q2, 0, none⟩), .pointer (some ⟨t2, 0, none⟩), .int .i64 0, .int .u64 (flr s.m), .int .u64 s.at_, .int .i64 s.f, .int .i64 s.pc, .slice ka s.ls.length kc, .int .i64 s.e.1, .int .i64 s.e.2] 94)).drew.heap[w4.heap.size]? = some (.cells #[.int .u32 0, .int .i32 0, .int .u32 0, .int .i64 0, .slice da s.m.d.length dc, .slice fa s.m.f.length fc, .slice ia s.inp.length ic, .int .i64 s.b.length, .pointer (some ⟨q2, 0, none⟩), .pointer (some ⟨t2, 0, none⟩), .int .i64 0, .int .u64 (flr s.m), .int .u64 s.at_, .int .i64 s.f, .int .i64 s.pc, .slice ka s.ls.length kc, .int .i64 s.e.1, .int .i64 s.e.2] 94 (0, 0))) := Lib.hid HB5.out
 refine Lex.region [6, 7] [8] (by kernel_rfl) (by kernel_rfl) ?_
 refine Lex.opens (fun _ => True) (trivial) ?_
 repeat ((first | refine Lex.skips (by rfl) ?_ | (refine Lex.quiet (v := ?_) (by rfl) (by rfl) ?_ ?_; rotate_left; focus (intro w' hS'; go_simp; try rfl))); try simp only [Act.put, List.setIfInBounds_toArray, List.set_cons_zero, List.set_cons_succ])
 refine Lex.loud (by rfl) (by rfl) ?_
 intro K' hK'
 go_simp
 refine (aload_ok _ _ _ HF0.out).mono ?_
 rintro e w' ⟨rfl, rfl⟩
 refine hK' _ _ (trivial) ?_
 clear hK'
 try simp only [Act.put, List.setIfInBounds_toArray, List.set_cons_zero, List.set_cons_succ]
 repeat ((first | refine Lex.skips (by rfl) ?_ | (refine Lex.quiet (v := ?_) (by rfl) (by rfl) ?_ ?_; rotate_left; focus (intro w' hS'; go_simp; try rfl))); try simp only [Act.put, List.setIfInBounds_toArray, List.set_cons_zero, List.set_cons_succ])
 refine Lex.loud (by rfl) (by rfl) ?_
 intro K' hK'
 go_simp
 refine (astore_ok _ (.int .i64 0) s.fuel _ (cell_of_heap HB6.out rfl) (frozen_of_heap HB6.out)).mono ?_
 rintro e w6 ⟨rfl, rfl⟩
 refine hK' _ _ (trivial) ?_
 clear hK'
 try simp only [Act.put, List.setIfInBounds_toArray, List.set_cons_zero, List.set_cons_succ]
 refine Lex.done ?_
 refine Lex.ends ?_
 have HB7 := Lib.hid (heap_setCell (o := 10) (v := .int .i64 s.fuel) HB6.out)
 have R67 := Lib.hid ((Fr.refl no (w4.alloc (.cells #[.int .u32 0, .int .i32 0, .int .u32 0, .int .i64 0, .slice da s.m.d.length dc, .slice fa s.m.f.length fc, .slice ia s.inp.length ic, .int .i64 s.b.length, .pointer (some ⟨q2, 0, none⟩), .pointer (some ⟨t2, 0, none⟩), .int .i64 0, .int .u64 (flr s.m), .int .u64 s.at_, .int .i64 s.f, .int .i64 s.pc, .slice ka s.ls.length kc, .int .i64 s.e.1, .int .i64 s.e.2] 94))).drew.to.trans ((Fr.refl (only [w4.heap.size]) (w4.alloc (.cells #[.int .u32 0, .int .i32 0, .int .u32 0, .int .i64 0, .slice da s.m.d.length dc, .slice fa s.m.f.length fc, .slice ia s.inp.length ic, .int .i64 s.b.length, .pointer (some ⟨q2, 0, none⟩), .pointer (some ⟨t2, 0, none⟩), .int .i64 0, .int .u64 (flr s.m), .int .u64 s.at_, .int .i64 s.f, .int .i64 s.pc, .slice ka s.ls.length kc, .int .i64 s.e.1, .int .i64 s.e.2] 94)).drew).setCell ⟨w4.heap.size, 10, none⟩ (.int .i64 s.fuel) (.inl (by simp))))
 generalize (w4.alloc (.cells #[.int .u32 0, .int .i32 0, .int .u32 0, .int .i64 0, .slice da s.m.d.length dc, .slice fa s.m.f.length fc, .slice ia s.inp.length ic, .int .i64 s.b.length, .pointer (some ⟨q2, 0, none⟩), .pointer (some ⟨t2, 0, none⟩), .int .i64 0, .int .u64 (flr s.m), .int .u64 s.at_, .int .i64 s.f, .int .i64 s.pc, .slice ka s.ls.length kc, .int .i64 s.e.1, .int .i64 s.e.2] 94)).drew.setCell ⟨w4.heap.size, 10, none⟩ (.int .i64 s.fuel) = w7 at *
 generalize w4.alloc (.cells #[.int .u32 0, .int .i32 0, .int .u32 0, .int .i64 0, .slice da s.m.d.length dc, .slice fa s.m.f.length fc, .slice ia s.inp.length ic, .int .i64 s.b.length, .pointer (some ⟨q2, 0, none⟩), .pointer (some ⟨t2, 0, none⟩), .int .i64 0, .int .u64 (flr s.m), .int .u64 s.at_, .int .i64 s.f, .int .i64 s.pc, .slice ka s.ls.length kc, .int .i64 s.e.1, .int .i64 s.e.2] 94) = w5 at *
 clear HB6 HF0
 have hb8 := heap_setCell (o := 1) (v := .int .i32 1) HB7.out
 go_wp2_with fail
 refine (do_first w4.heap.size 0 110 #[] (fun w' => w' = w7.setCell ⟨w4.heap.size, 0 + 1, none⟩ (.int .i32 1)) w7 (cell_of_heap HB7.out rfl) (cell_of_heap HB7.out rfl) (frozen_of_heap HB7.out) (fun _ => by rfl) ((copy1_ok _).mono (by
  rintro e w' ⟨rfl, rfl⟩
  exact ⟨rfl, rfl, cell_of_heap hb8 rfl, cell_of_heap hb8 rfl, frozen_of_heap hb8, frozen_of_heap hb8⟩))).mono ?_
 rintro e w' ⟨rfl, w8, rfl, rfl⟩
 have hb9 := heap_setCell (w := ((w7.setCell ⟨w4.heap.size, 0 + 1, none⟩ (.int .i32 1)).drew.setCell ⟨w4.heap.size, 0, none⟩ (.int .u32 1))) (o := 0 + 1) (v := .int .i32 0) (heap_setCell (w := (w7.setCell ⟨w4.heap.size, 0 + 1, none⟩ (.int .i32 1)).drew) (o := 0) (v := .int .u32 1) hb8)
 have r79 : Fr (only [w4.heap.size]) w7 (((w7.setCell ⟨w4.heap.size, 0 + 1, none⟩ (.int .i32 1)).drew.setCell ⟨w4.heap.size, 0, none⟩ (.int .u32 1)).setCell ⟨w4.heap.size, 0 + 1, none⟩ (.int .i32 0)) :=
  (((Fr.refl (only [w4.heap.size]) w7).setCell ⟨w4.heap.size, 0 + 1, none⟩ (.int .i32 1) (.inl (by simp))).drew.setCell ⟨w4.heap.size, 0, none⟩ (.int .u32 1) (.inl (by simp))).setCell ⟨w4.heap.size, 0 + 1, none⟩ (.int .i32 0) (.inl (by simp))
 have HB9 := Lib.hid hb9
 have R59 := Lib.hid (R67.out.trans r79)
 clear hb8 hb9 r79
 generalize ((w7.setCell ⟨w4.heap.size, 0 + 1, none⟩ (.int .i32 1)).drew.setCell ⟨w4.heap.size, 0, none⟩ (.int .u32 1)).setCell ⟨w4.heap.size, 0 + 1, none⟩ (.int .i32 0) = w9 at *
 go_wp2_with fail
 go_ret
 have hq := HQ2.out
 have h23 := S23.out
 have h34 := S34.out
 have hR2 := R2.out.size
 have r9 : Fr no w w9 := R5.out.trans' R59.out (fun k hk hlt => by simp at hk; subst hk; have := R4.out.size; omega)
 obtain ⟨O', R', z', h1, h2, h3⟩ := H.out.copied r9 (p2 := w4.heap.size) (q2 := q2) (g2 := g2) (c2 := c2) (t2 := t2) (tv2 := tv2) (lv2 := lv2) (kv2 := .slice ka s.ls.length kc) (m2 := w2.heap.size) (m3 := w3.heap.size) HB9.out
  (HM5.out.frx R59.out (fun e => block_ne HM5.out.obj HB5.out (by decide) (by simpa using e)) (by have := HQ2.out.2.2; simp; omega))
  (HT5.out.frx R59.out (fun e => block_ne HT5.out.obj HB5.out (by decide) (by simpa using e)) (fun k hk e => by simp at e; subst e; exact row_block_ne HT5.out.inn HB5.out (by decide) hk) (fun k hk e => by simp at e; subst e; exact row_block_ne HT5.out.out HB5.out (by decide) hk))
  (owns_fr HK5.out R59.out (fun k hk e => by simp at e; subst e; exact row_block_ne HK5.out HB5.out (by decide) hk))
  (Nat.le_trans R3.out.size h34) hq.1 hq.2.1 hq.2.2 hR2 (Nat.le_trans hR2 h23)
 exact ⟨_, O', R', z', rfl, h1, h2, h3, r9⟩

end Go.Proofs.YtihnkijeefkefaaGreat

set_option linter.unusedSimpArgs false
set_option linter.unusedVariables false
set_option linter.unusedSectionVars false
set_option linter.unnecessarySimpa false
set_option maxRecDepth 100000
/- Are two spaces the same? -/
namespace Go.Proofs.YtihnkijeefkefaaGreat
open Go.RowKit

attribute [local go_sem] Program.isFuncB Program.isSliceB

variable {w w' w'' w0 w1 : World} {O R O2 R2 X : Nat → Prop} {p q : Nat} {s s' t t' : Zp} {z y : Pz}

theorem addr_add (ad : Addr) (a j : Nat) : (ad.add a).add j = ad.add (a + j) := by
 by_cases ha : a = 0
 ·subst ha; simp [Addr.add]
 by_cases hj : j = 0
 ·subst hj; simp [Addr.add]
 have h : ¬ a + j = 0 := by omega
 simp only [Addr.add, if_neg ha, if_neg hj, if_neg h, Nat.add_assoc]
theorem reads_len {v : Value} {z n : Nat} {cs : List Value} (h : Reads w v z n cs) : cs.length = n * z := by
 rcases h with ⟨-, rfl, rfl⟩ | ⟨ad, cap, -, -, -, h4, -⟩
 ·simp
 ·exact h4
theorem u8s_at (l : List Nat) (k : Nat) (h : k < l.length) : ((u8s l).drop (k * 1)).take 1 = [.int .u8 (l[k] : Nat)] := by
 rw [Nat.mul_one]
 have : k < (u8s l).length := by rw [u8s_len]; exact h
 rw [List.drop_eq_getElem_cons this]
 simp [u8s]
theorem linksC_at (l : List Lk) (k : Nat) (h : k < l.length) : ((linksC l).drop (k * 4)).take 4 = [.int .i64 l[k].f, .int .i64 l[k].at_, .int .i64 l[k].back, .int .i64 l[k].res] := by
 have hl : l = l.take k ++ l[k] :: l.drop (k + 1) := by rw [← List.drop_eq_getElem_cons h, List.take_append_drop]
 have hk : (l.take k).length = k := by rw [List.length_take]; omega
 conv => lhs; rw [hl, linksC_app]
 rw [List.drop_left' (by rw [linksC_len, hk])]
 rfl
theorem run_eq4 (w : World) (a b c d a' b' c' d' : Int) : (Op.equalIn 10000 121 (.agg #[.int .i64 a, .int .i64 b, .int .i64 c, .int .i64 d]) (.agg #[.int .i64 a', .int .i64 b', .int .i64 c', .int .i64 d'])).run Tryz.prog w = .ok ((a == a') && ((b == b') && ((c == c') && (d == d')))) w := by
 have hi := infoInt'
 have hc : Tryz.prog.cellsOf 3 = 1 := by kernel_rfl
 rw [show (10000 : Nat) = 9999 + 1 from rfl, run_equalIn_array w 9999 _ _ Tryz.underlying121 hi, hc]
 have hr : List.range 4 = [0, 1, 2, 3] := rfl
 rw [hr]
 simp only [Op.eqItems, Sem.run_bind]
 go_simp
 by_cases h1 : a = a' <;> by_cases h2 : b = b' <;> by_cases h3 : c = c' <;> by_cases h4 : d = d' <;> simp [h1, h2, h3, h4]
def lk4 (x y : Lk) : Bool := ((x.f : Int) == (y.f : Int)) && (((x.at_ : Int) == (y.at_ : Int)) && ((x.back == y.back) && (x.res == y.res)))
theorem lk4_eq (x y : Lk) : lk4 x y = decide (x = y) := by
 obtain ⟨a, b, c, d⟩ := x
 obtain ⟨a', b', c', d'⟩ := y
 rw [Bool.eq_iff_iff, decide_eq_true_eq]
 simp only [lk4, Bool.and_eq_true, beq_iff_eq, Lk.mk.injEq, Int.natCast_inj]
set_option maxHeartbeats 4000000 in
theorem eqlinks_ok (w : World) (u v : Value) (a b : List Lk) (ha : Reads w u 4 a.length (linksC a)) (hb : Reads w v 4 b.length (linksC b)) (hl : a.length ≤ 1000000000) :
  Calls Tryz.prog 92 #[u, v] w fun e w' => e = .returned (.bool (decide (a = b))) ∧ Fr no w w' := by
 obtain ⟨ua, uc, rfl⟩ := ha.shape
 obtain ⟨va, vc, rfl⟩ := hb.shape
 by_cases hab : a.length = b.length
 case neg =>
  have HN : Hid (decide (a = b) = false) := Lib.hid (decide_eq_false (fun e => hab (by rw [e])))
  have e1 : ((a.length : Int) != (b.length : Int)) = true := by rw [bne_iff_ne]; omega
  clear hab ha hb
  go_enter Tryz.func92, Tryz.ntmps92
  go_wp2_with fail
  go_ret
  exact ⟨by rw [HN.out]; rfl, Fr.refl _ _⟩
 have HA := Lib.hid ha
 have HB := Lib.hid hb
 clear ha hb
 generalize hmm : b.length = mm at *
 obtain rfl : mm = a.length := by omega
 have HJL := Lib.hid hmm
 clear hmm hab
 go_enter Tryz.func92, Tryz.ntmps92
 go_wp2_with fail
 go_loopw [13] (fun x wr => ∃ k : Nat, k ≤ a.length ∧ x = .int .i64 k ∧ Hid (a.take k = b.take k) ∧ Hid (Fr no w wr)) (fun x _ => (a.length - intOf x).toNat)
 case atStart => exact ⟨0, by omega, rfl, Lib.hid rfl, Lib.hid (Fr.refl _ _)⟩
 case round =>
  obtain ⟨k, hk, rfl, hpre, hfr⟩ := hrel
  by_cases hks : k < a.length
  ·have hks' : (k : Int) < a.length := by omega
   have hkb : k < b.length := by have := HJL.out; omega
   have rd := hfr.out.trans (Fr.refl no wr).drew
   obtain ⟨b1, o1, rfl, h1⟩ := reads_elem (HA.out.fr rd (by simp)) (by decide) hks
   obtain ⟨b2, o2, rfl, h2⟩ := reads_elem (HB.out.fr rd (by simp)) (by decide) hks
   rw [linksC_at a k hks] at h1
   rw [linksC_at b k hkb] at h2
   have HD : Hid (decide (a[k] = b[k]) = decide (a.take (k + 1) = b.take (k + 1))) := Lib.hid (by
    rw [List.take_succ_eq_append_getElem hks, List.take_succ_eq_append_getElem hkb, hpre.out]
    rw [Bool.eq_iff_iff, decide_eq_true_eq, decide_eq_true_eq]
    exact ⟨fun h => by rw [h], fun h => by have := List.append_inj_right' h rfl; injection this⟩)
   have HBD : Hid (decide (a.take (k + 1) = b.take (k + 1)) = false → decide (a = b) = false) := Lib.hid (fun h => decide_eq_false (fun e => by
    have h2 : a.take (k + 1) ≠ b.take (k + 1) := of_decide_eq_false h
    exact h2 (by rw [e])))
   have HTD : Hid (decide (a.take (k + 1) = b.take (k + 1)) = true → a.take (k + 1) = b.take (k + 1)) := Lib.hid (fun h => by simpa using h)
   have A1 := Lib.hid h1
   have A2 := Lib.hid h2
   have R1 := Lib.hid rd
   clear h1 h2 rd
   generalize a[k] = x at *
   generalize b[k] = y at *
   obtain ⟨x1, x2, x3, x4⟩ := x
   obtain ⟨y1, y2, y3, y4⟩ := y
   dsimp only at A1 A2
   rw [← lk4_eq] at HD
   unfold lk4 at HD
   dsimp only at HD
   have hq4 := fun w => run_eq4 w x1 x2 x3 x4 y1 y2 y3 y4
   go_upto_region 6 with (fail)
   cases e1 : ((x1 : Int) == (y1 : Int))
   case false =>
    have e1' : ((x1 : Int) != (y1 : Int)) = true := by rw [bne, e1]; rfl
    have HF := Lib.hid (HBD.out (by rw [← HD.out, e1]; rfl))
    refine Lex.region [] [9] (by kernel_rfl) (by kernel_rfl) ?_
    refine Lex.opens (fun w' => At w' b1 (o1 + k * 4) [.int .i64 x1, .int .i64 x2, .int .i64 x3, .int .i64 x4] ∧ At w' b2 (o2 + k * 4) [.int .i64 y1, .int .i64 y2, .int .i64 y3, .int .i64 y4]) (⟨A1.out, A2.out⟩) ?_
    repeat ((first | refine Lex.skips (by rfl) ?_ | (refine Lex.into (by rfl) (by rfl) _ _ rfl _ _ rfl _ _ (fun w' h => h.1) Tryz.underlying121 rfl (by rw [Tryz.infoFour]; rfl) ?_) | (refine Lex.into (by rfl) (by rfl) _ _ rfl _ _ rfl _ _ (fun w' h => h.2) Tryz.underlying121 rfl (by rw [Tryz.infoFour]; rfl) ?_) | (refine Lex.quiet (v := ?_) (by rfl) (by rfl) ?_ ?_; rotate_left; focus (intro w' hS'; go_simp; try rfl))); try simp only [Act.put, List.setIfInBounds_toArray, List.set_cons_zero, List.set_cons_succ])
    refine Lex.done ?_
    refine Lex.ends ?_
    go_wp2_with fail
    go_ret
    exact ⟨by rw [HF.out]; rfl, R1.out⟩
   cases e2 : ((x2 : Int) == (y2 : Int))
   case false =>
    have e2' : ((x2 : Int) != (y2 : Int)) = true := by rw [bne, e2]; rfl
    have HF := Lib.hid (HBD.out (by rw [← HD.out, e1, e2]; rfl))
    refine Lex.region [] [9] (by kernel_rfl) (by kernel_rfl) ?_
    refine Lex.opens (fun w' => At w' b1 (o1 + k * 4) [.int .i64 x1, .int .i64 x2, .int .i64 x3, .int .i64 x4] ∧ At w' b2 (o2 + k * 4) [.int .i64 y1, .int .i64 y2, .int .i64 y3, .int .i64 y4]) (⟨A1.out, A2.out⟩) ?_
    repeat ((first | refine Lex.skips (by rfl) ?_ | (refine Lex.into (by rfl) (by rfl) _ _ rfl _ _ rfl _ _ (fun w' h => h.1) Tryz.underlying121 rfl (by rw [Tryz.infoFour]; rfl) ?_) | (refine Lex.into (by rfl) (by rfl) _ _ rfl _ _ rfl _ _ (fun w' h => h.2) Tryz.underlying121 rfl (by rw [Tryz.infoFour]; rfl) ?_) | (refine Lex.quiet (v := ?_) (by rfl) (by rfl) ?_ ?_; rotate_left; focus (intro w' hS'; go_simp; try rfl))); try simp only [Act.put, List.setIfInBounds_toArray, List.set_cons_zero, List.set_cons_succ])
    refine Lex.done ?_
    refine Lex.ends ?_
    go_wp2_with fail
    go_ret
    exact ⟨by rw [HF.out]; rfl, R1.out⟩
   cases e3 : (x3 == y3)
   case false =>
    have e3' : (x3 != y3) = true := by rw [bne, e3]; rfl
    have HF := Lib.hid (HBD.out (by rw [← HD.out, e1, e2, e3]; rfl))
    refine Lex.region [] [9] (by kernel_rfl) (by kernel_rfl) ?_
    refine Lex.opens (fun w' => At w' b1 (o1 + k * 4) [.int .i64 x1, .int .i64 x2, .int .i64 x3, .int .i64 x4] ∧ At w' b2 (o2 + k * 4) [.int .i64 y1, .int .i64 y2, .int .i64 y3, .int .i64 y4]) (⟨A1.out, A2.out⟩) ?_
    repeat ((first | refine Lex.skips (by rfl) ?_ | (refine Lex.into (by rfl) (by rfl) _ _ rfl _ _ rfl _ _ (fun w' h => h.1) Tryz.underlying121 rfl (by rw [Tryz.infoFour]; rfl) ?_) | (refine Lex.into (by rfl) (by rfl) _ _ rfl _ _ rfl _ _ (fun w' h => h.2) Tryz.underlying121 rfl (by rw [Tryz.infoFour]; rfl) ?_) | (refine Lex.quiet (v := ?_) (by rfl) (by rfl) ?_ ?_; rotate_left; focus (intro w' hS'; go_simp; try rfl))); try simp only [Act.put, List.setIfInBounds_toArray, List.set_cons_zero, List.set_cons_succ])
    refine Lex.done ?_
    refine Lex.ends ?_
    go_wp2_with fail
    go_ret
    exact ⟨by rw [HF.out]; rfl, R1.out⟩
   cases e4 : (x4 == y4)
   case false =>
    have e4' : (x4 != y4) = true := by rw [bne, e4]; rfl
    have HF := Lib.hid (HBD.out (by rw [← HD.out, e1, e2, e3, e4]; rfl))
    refine Lex.region [] [9] (by kernel_rfl) (by kernel_rfl) ?_
    refine Lex.opens (fun w' => At w' b1 (o1 + k * 4) [.int .i64 x1, .int .i64 x2, .int .i64 x3, .int .i64 x4] ∧ At w' b2 (o2 + k * 4) [.int .i64 y1, .int .i64 y2, .int .i64 y3, .int .i64 y4]) (⟨A1.out, A2.out⟩) ?_
    repeat ((first | refine Lex.skips (by rfl) ?_ | (refine Lex.into (by rfl) (by rfl) _ _ rfl _ _ rfl _ _ (fun w' h => h.1) Tryz.underlying121 rfl (by rw [Tryz.infoFour]; rfl) ?_) | (refine Lex.into (by rfl) (by rfl) _ _ rfl _ _ rfl _ _ (fun w' h => h.2) Tryz.underlying121 rfl (by rw [Tryz.infoFour]; rfl) ?_) | (refine Lex.quiet (v := ?_) (by rfl) (by rfl) ?_ ?_; rotate_left; focus (intro w' hS'; go_simp; try rfl))); try simp only [Act.put, List.setIfInBounds_toArray, List.set_cons_zero, List.set_cons_succ])
    refine Lex.done ?_
    refine Lex.ends ?_
    go_wp2_with fail
    go_ret
    exact ⟨by rw [HF.out]; rfl, R1.out⟩
   have HF := Lib.hid (HTD.out (by rw [← HD.out, e1, e2, e3, e4]; rfl))
   refine Lex.region [] [9] (by kernel_rfl) (by kernel_rfl) ?_
   refine Lex.opens (fun w' => At w' b1 (o1 + k * 4) [.int .i64 x1, .int .i64 x2, .int .i64 x3, .int .i64 x4] ∧ At w' b2 (o2 + k * 4) [.int .i64 y1, .int .i64 y2, .int .i64 y3, .int .i64 y4]) (⟨A1.out, A2.out⟩) ?_
   repeat ((first | refine Lex.skips (by rfl) ?_ | (refine Lex.into (by rfl) (by rfl) _ _ rfl _ _ rfl _ _ (fun w' h => h.1) Tryz.underlying121 rfl (by rw [Tryz.infoFour]; rfl) ?_) | (refine Lex.into (by rfl) (by rfl) _ _ rfl _ _ rfl _ _ (fun w' h => h.2) Tryz.underlying121 rfl (by rw [Tryz.infoFour]; rfl) ?_) | (refine Lex.quiet (v := ?_) (by rfl) (by rfl) ?_ ?_; rotate_left; focus (intro w' hS'; go_simp; try rfl))); try simp only [Act.put, List.setIfInBounds_toArray, List.set_cons_zero, List.set_cons_succ])
   refine Lex.done ?_
   refine Lex.ends ?_
   go_wp2_with fail
   go_roundw
   case rel => exact ⟨k + 1, by omega, by go_num, HF, R1⟩
   case measure => first | (simp [intOf]; done) | (simp [intOf]; omega)
  ·obtain rfl : k = a.length := by omega
   have HF : Hid (decide (a = b) = true) := Lib.hid (by
    have h := hpre.out
    rw [List.take_length, ← HJL.out, List.take_length] at h
    exact decide_eq_true h)
   go_wp2_with fail
   go_ret
   exact ⟨by rw [HF.out]; rfl, hfr.out⟩
set_option maxHeartbeats 4000000 in
theorem eqbytes_ok (w : World) (u v : Value) (a b : List Nat) (ha : Reads w u 1 a.length (u8s a)) (hb : Reads w v 1 b.length (u8s b)) (hl : a.length ≤ 1000000000) :
  Calls Tryz.prog 96 #[u, v] w fun e w' => e = .returned (.bool (decide (a = b))) ∧ Fr no w w' := by
 obtain ⟨ua, uc, rfl⟩ := ha.shape
 obtain ⟨va, vc, rfl⟩ := hb.shape
 by_cases hab : a.length = b.length
 case neg =>
  have HN : Hid (decide (a = b) = false) := Lib.hid (decide_eq_false (fun e => hab (by rw [e])))
  have e1 : ((a.length : Int) != (b.length : Int)) = true := by rw [bne_iff_ne]; omega
  clear hab ha hb
  go_enter Tryz.func96, Tryz.ntmps96
  go_wp2_with fail
  go_ret
  exact ⟨by rw [HN.out]; rfl, Fr.refl _ _⟩
 have HA := Lib.hid ha
 have HB := Lib.hid hb
 clear ha hb
 generalize hmm : b.length = mm at *
 obtain rfl : mm = a.length := by omega
 have HJL := Lib.hid hmm
 clear hmm hab
 go_enter Tryz.func96, Tryz.ntmps96
 go_wp2_with fail
 go_loopw [13] (fun x wr => ∃ k : Nat, k ≤ a.length ∧ x = .int .i64 k ∧ Hid (a.take k = b.take k) ∧ Hid (Fr no w wr)) (fun x _ => (a.length - intOf x).toNat)
 case atStart => exact ⟨0, by omega, rfl, Lib.hid rfl, Lib.hid (Fr.refl _ _)⟩
 case round =>
  obtain ⟨k, hk, rfl, hpre, hfr⟩ := hrel
  by_cases hks : k < a.length
  ·have hks' : (k : Int) < a.length := by omega
   have hkb : k < b.length := by have := HJL.out; omega
   have rd := hfr.out.trans (Fr.refl no wr).drew
   obtain ⟨b1, o1, rfl, h1⟩ := reads_elem (HA.out.fr rd (by simp)) (by decide) hks
   obtain ⟨b2, o2, rfl, h2⟩ := reads_elem (HB.out.fr rd (by simp)) (by decide) hks
   rw [u8s_at a k hks] at h1
   rw [u8s_at b k hkb] at h2
   have HD : Hid (decide (a[k] = b[k]) = decide (a.take (k + 1) = b.take (k + 1))) := Lib.hid (by
    rw [List.take_succ_eq_append_getElem hks, List.take_succ_eq_append_getElem hkb, hpre.out]
    rw [Bool.eq_iff_iff, decide_eq_true_eq, decide_eq_true_eq]
    exact ⟨fun h => by rw [h], fun h => by have := List.append_inj_right' h rfl; injection this⟩)
   have HBD : Hid (decide (a.take (k + 1) = b.take (k + 1)) = false → decide (a = b) = false) := Lib.hid (fun h => decide_eq_false (fun e => by
    have h2 : a.take (k + 1) ≠ b.take (k + 1) := of_decide_eq_false h
    exact h2 (by rw [e])))
   have HTD : Hid (decide (a.take (k + 1) = b.take (k + 1)) = true → a.take (k + 1) = b.take (k + 1)) := Lib.hid (fun h => by simpa using h)
   have A1 := Lib.hid h1
   have A2 := Lib.hid h2
   have R1 := Lib.hid rd
   clear h1 h2 rd
   generalize a[k] = x at *
   generalize b[k] = y at *

   go_upto_region 6 with (fail)
   by_cases hxy : x = y
   case neg =>
    have e1 : ((x : Int) != (y : Int)) = true := bne_iff_ne.2 (by omega)
    have HF := Lib.hid (HBD.out (by rw [← HD.out, decide_eq_false hxy]))
    clear hxy
    have S6 : Hid ((fun w' : World => w'.cell? ⟨b1, o1 + k, none⟩ = some (.int .u8 x) ∧ w'.cell? ⟨b2, o2 + k, none⟩ = some (.int .u8 y)) wr.drew) := Lib.hid ⟨by have := A1.out 0 _ rfl; rwa [Nat.mul_one, Nat.add_zero] at this, by have := A2.out 0 _ rfl; rwa [Nat.mul_one, Nat.add_zero] at this⟩
    refine Lex.region [] [9] (by kernel_rfl) (by kernel_rfl) ?_
    refine Lex.opens (fun w' => w'.cell? ⟨b1, o1 + k, none⟩ = some (.int .u8 x) ∧ w'.cell? ⟨b2, o2 + k, none⟩ = some (.int .u8 y)) (S6.out) ?_
    repeat ((first | refine Lex.skips (by rfl) ?_ | (refine Lex.quiet (v := ?_) (by rfl) (by rfl) ?_ ?_; rotate_left; focus (intro w' hS'; go_simp; try rfl))); try simp only [Act.put, List.setIfInBounds_toArray, List.set_cons_zero, List.set_cons_succ])
    refine Lex.done ?_
    refine Lex.ends ?_
    go_wp2_with fail
    go_ret
    exact ⟨by rw [HF.out]; rfl, R1.out⟩
   case pos =>
    have e1 : ((x : Int) != (y : Int)) = false := by rw [hxy]; simp
    have HF := Lib.hid (HTD.out (by rw [← HD.out, decide_eq_true hxy]))
    clear hxy
    have S6 : Hid ((fun w' : World => w'.cell? ⟨b1, o1 + k, none⟩ = some (.int .u8 x) ∧ w'.cell? ⟨b2, o2 + k, none⟩ = some (.int .u8 y)) wr.drew) := Lib.hid ⟨by have := A1.out 0 _ rfl; rwa [Nat.mul_one, Nat.add_zero] at this, by have := A2.out 0 _ rfl; rwa [Nat.mul_one, Nat.add_zero] at this⟩
    refine Lex.region [] [9] (by kernel_rfl) (by kernel_rfl) ?_
    refine Lex.opens (fun w' => w'.cell? ⟨b1, o1 + k, none⟩ = some (.int .u8 x) ∧ w'.cell? ⟨b2, o2 + k, none⟩ = some (.int .u8 y)) (S6.out) ?_
    repeat ((first | refine Lex.skips (by rfl) ?_ | (refine Lex.quiet (v := ?_) (by rfl) (by rfl) ?_ ?_; rotate_left; focus (intro w' hS'; go_simp; try rfl))); try simp only [Act.put, List.setIfInBounds_toArray, List.set_cons_zero, List.set_cons_succ])
    refine Lex.done ?_
    refine Lex.ends ?_
    go_wp2_with fail
    go_roundw
    case rel => exact ⟨k + 1, by omega, by go_num, HF, R1⟩
    case measure => first | (simp [intOf]; done) | (simp [intOf]; omega)
  ·obtain rfl : k = a.length := by omega
   have HF : Hid (decide (a = b) = true) := Lib.hid (by
    have h := hpre.out
    rw [List.take_length, ← HJL.out, List.take_length] at h
    exact decide_eq_true h)
   go_wp2_with fail
   go_ret
   exact ⟨by rw [HF.out]; rfl, hfr.out⟩
theorem tleft_ok {base t a : Nat} {inp : List Nat} {l : List Dd} {iv lv : Value} (w : World) (h : TapeAt w base t inp a l iv lv) (hi : inp.length ≤ 100000) :
  Calls Tryz.prog 153 #[.pointer (some ⟨t, 0, none⟩)] w fun e w' => e = .returned (.int .i64 ((inp.length : Int) - a)) ∧ Fr no w w' := by
 obtain ⟨ia, ic, rfl⟩ := owns_shape h.inn
 have NN := Lib.hid (none_at w t true _ _ _ h.obj)
 have c1 : w.cell? ⟨t, 1, none⟩ = some (.slice ia inp.length ic) := cell_of_heap h.obj rfl
 have c2 : w.cell? ⟨t, 2, none⟩ = some (.int .i64 a) := cell_of_heap h.obj rfl
 have hle := h.le
 have hw : IntKind.i64.wrap ((inp.length : Int) - (a : Int)) = (inp.length : Int) - (a : Int) := by rw [IntKind.wrap_i64]; omega
 clear h
 go_enter Tryz.func153, Tryz.ntmps153
 go_wp2_with fail
 refine NN.out.mono ?_
 rintro e w' ⟨rfl, rfl⟩
 go_wp2_with fail
 go_quiet (fail)
 go_wp2_with fail
 go_ret
 exact ⟨rfl, (Fr.refl _ _).drewN _⟩
theorem reads_from {n c a : Nat} {ia : Option Addr} {l : List Nat} (h : Reads w (.slice ia n c) 1 n (u8s l)) (ha : a ≤ n) : Reads w (.slice (if c = a then ia else ia.map (·.add (a * 1))) (n - a) (c - a)) 1 (n - a) (u8s (l.drop a)) := by
 have hlen : l.length = n := by have := reads_len h; rw [u8s_len] at this; omega
 rcases h with ⟨h, h2, h3⟩ | ⟨ad, cap, h, h2, h3, h4, h5⟩
 ·cases h
  obtain rfl : a = 0 := by omega
  have : l = [] := List.length_eq_zero_iff.1 hlen
  subst this
  exact .inl ⟨rfl, rfl, rfl⟩
 ·cases h
  by_cases hc : c = a
  ·subst hc
   obtain rfl : n = c := by omega
   rw [if_pos rfl, Nat.sub_self]
   refine .inr ⟨ad, 0, rfl, by omega, by unfold maxLen; omega, ?_, fun j u hj => ?_⟩
   ·rw [u8s_len, List.length_drop, hlen]; omega
   ·rw [List.drop_eq_nil_of_le (by omega)] at hj
    cases hj
  ·rw [if_neg hc]
   refine .inr ⟨ad.add (a * 1), c - a, rfl, by omega, by omega, ?_, fun j u hj => ?_⟩
   ·rw [u8s_len, List.length_drop, hlen, Nat.mul_one]
   ·have hj' : (u8s l)[a + j]? = some u := by
     rw [← List.getElem?_drop]
     unfold u8s at hj ⊢
     rw [← List.map_drop]
     exact hj
    have := h5 (a + j) u hj'
    rw [Nat.mul_one, addr_add]
    exact this
set_option maxHeartbeats 2000000 in
theorem sleft_ok (w : World) (h : SpAt w O R p s z) : Calls Tryz.prog 97 #[.pointer (some ⟨p, 0, none⟩)] w fun e w' => ∃ v, e = .returned v ∧ Reads w' v 1 (s.inp.drop s.pos).length (u8s (s.inp.drop s.pos)) ∧ Fr no w w' := by
 have HRD := Lib.hid h.ro.now.2
 obtain ⟨ia, ic, hiv⟩ := h.ro.now.2.shape
 have hle := h.ok.ip
 have hil := h.ok.il
 have H := Lib.hid h
 obtain ⟨n, hn⟩ : ∃ n, s.inp.length = n := ⟨_, rfl⟩
 obtain ⟨a, ha⟩ : ∃ a, s.pos = a := ⟨_, rfl⟩
 have SS : Hid (∀ w', Fr no w w' → (fun w' => w'.cell? ⟨p, 6, none⟩ = some (.slice ia n ic) ∧ w'.cell? ⟨p, 9, none⟩ = some (.pointer (some ⟨z.t, 0, none⟩))) w') := Lib.hid (fun w' r => by
  have ho := r.heap H.out.obj (by simp)
  exact ⟨by rw [← hn, ← hiv]; exact cell_of_heap ho rfl, cell_of_heap ho rfl⟩)
 have R1 := Lib.hid (Fr.refl no w).drew
 have S1 := Lib.hid (SS.out _ R1.out)
 have HLF := Lib.hid (tleft_ok w.drew (H.out.fr R1.out).tape hil)
 rw [hn, ha] at HLF
 rw [hiv, hn] at HRD
 have hnc := cap_of_reads HRD.out
 rw [hn] at hle hil
 rw [ha] at hle
 have hwr : IntKind.i64.wrap ((n : Int) - ((n : Int) - (a : Int))) = (a : Int) := by rw [IntKind.wrap_i64]; omega
 have hto : ((a : Nat) : Int).toNat = a := rfl
 have HN := Lib.hid hn
 have HA := Lib.hid ha
 clear h hiv hn ha
 by_cases hca : ic = a
 case pos =>
  subst hca
  go_enter Tryz.func97, Tryz.ntmps97
  go_upto_region 1 with (fail)
  refine Lex.region [13] [17] (by kernel_rfl) (by kernel_rfl) ?_
  refine Lex.opens (fun w' => w'.cell? ⟨p, 6, none⟩ = some (.slice ia n ic) ∧ w'.cell? ⟨p, 9, none⟩ = some (.pointer (some ⟨z.t, 0, none⟩))) (S1.out) ?_
  repeat ((first | refine Lex.skips (by rfl) ?_ | (refine Lex.quiet (v := ?_) (by rfl) (by rfl) ?_ ?_; rotate_left; focus (intro w' hS'; go_simp; try rfl))); try simp only [Act.put, List.setIfInBounds_toArray, List.set_cons_zero, List.set_cons_succ])
  refine Lex.loud (by rfl) (by rfl) ?_
  intro K' hK'
  go_simp
  refine HLF.out.mono ?_
  rintro e w2 ⟨rfl, r2⟩
  have R2 := Lib.hid (R1.out.trans r2)
  have S2 := Lib.hid (SS.out _ R2.out)
  clear r2
  refine hK' _ _ (S2.out) ?_
  clear hK'
  try simp only [Act.put, List.setIfInBounds_toArray, List.set_cons_zero, List.set_cons_succ]
  repeat ((first | refine Lex.skips (by rfl) ?_ | (refine Lex.quiet (v := ?_) (by rfl) (by rfl) ?_ ?_; rotate_left; focus (intro w' hS'; go_simp; try rfl))); try simp only [Act.put, List.setIfInBounds_toArray, List.set_cons_zero, List.set_cons_succ])
  refine Lex.done ?_
  refine Lex.ends ?_
  go_wp2_with fail
  go_ret
  have h := reads_from (HRD.out.fr R2.out (by simp)) hle
  rw [if_pos rfl, Nat.sub_self] at h
  refine ⟨_, rfl, ?_, R2.out⟩
  try rw [List.length_drop]
  have h0 : n - ic = 0 := by omega
  rw [h0] at h
  rw [HN.out, HA.out, h0]
  exact h
 case neg =>
  go_enter Tryz.func97, Tryz.ntmps97
  go_upto_region 1 with (fail)
  refine Lex.region [13] [17] (by kernel_rfl) (by kernel_rfl) ?_
  refine Lex.opens (fun w' => w'.cell? ⟨p, 6, none⟩ = some (.slice ia n ic) ∧ w'.cell? ⟨p, 9, none⟩ = some (.pointer (some ⟨z.t, 0, none⟩))) (S1.out) ?_
  repeat ((first | refine Lex.skips (by rfl) ?_ | (refine Lex.quiet (v := ?_) (by rfl) (by rfl) ?_ ?_; rotate_left; focus (intro w' hS'; go_simp; try rfl))); try simp only [Act.put, List.setIfInBounds_toArray, List.set_cons_zero, List.set_cons_succ])
  refine Lex.loud (by rfl) (by rfl) ?_
  intro K' hK'
  go_simp
  refine HLF.out.mono ?_
  rintro e w2 ⟨rfl, r2⟩
  have R2 := Lib.hid (R1.out.trans r2)
  have S2 := Lib.hid (SS.out _ R2.out)
  clear r2
  refine hK' _ _ (S2.out) ?_
  clear hK'
  try simp only [Act.put, List.setIfInBounds_toArray, List.set_cons_zero, List.set_cons_succ]
  repeat ((first | refine Lex.skips (by rfl) ?_ | (refine Lex.quiet (v := ?_) (by rfl) (by rfl) ?_ ?_; rotate_left; focus (intro w' hS'; go_simp; try rfl))); try simp only [Act.put, List.setIfInBounds_toArray, List.set_cons_zero, List.set_cons_succ])
  refine Lex.done ?_
  refine Lex.ends ?_
  go_wp2_with fail
  go_ret
  have h := reads_from (HRD.out.fr R2.out (by simp)) hle
  rw [if_neg hca, Nat.mul_one] at h
  refine ⟨_, rfl, ?_, R2.out⟩
  try rw [List.length_drop]
  rw [HN.out, HA.out]
  exact h
def sameS (s t : Zp) : Bool := decide (s.f = t.f) && (decide (s.pc = t.pc) && (decide (s.at_ = t.at_) && (decide (s.fuel = t.fuel) && (decide (s.ls = t.ls) && (decide (s.m = t.m) && (decide (s.b = t.b) && (sameO s.ds t.ds s.e t.e && decide (s.inp.drop s.pos = t.inp.drop t.pos))))))))
set_option maxHeartbeats 8000000 in
theorem ssame_ok (w : World) (h : SpAt w O R p s z) (h2 : SpAt w O2 R2 q t y) (hl : s.ds.length ≤ 100000) (hl2 : t.ds.length ≤ 100000) : Calls Tryz.prog 37 #[.pointer (some ⟨p, 0, none⟩), .pointer (some ⟨q, 0, none⟩)] w fun e w' => e = .returned (.bool (sameS s t)) ∧ Fr no w w' := by
 have H := Lib.hid h
 have K := Lib.hid h2
 have HDS := Lib.hid (And.intro hl hl2)
 have HLL := Lib.hid h.ok.ll
 clear h h2 hl hl2
 go_enter Tryz.func37, Tryz.ntmps37
 go_wp2_with fail
 refine (snone_ok w H.out).mono ?_
 rintro e w' ⟨rfl, rfl⟩
 go_wp2_with fail
 refine (snone_ok w K.out).mono ?_
 rintro e w' ⟨rfl, rfl⟩
 go_upto_region 3 with (fail)
 have SS3 : Hid (∀ w', Fr no w w' → (fun w' => w'.cell? ⟨p, 13, none⟩ = some (.int .i64 s.f) ∧ w'.cell? ⟨p, 14, none⟩ = some (.int .i64 s.pc) ∧ w'.cell? ⟨p, 12, none⟩ = some (.int .u64 s.at_) ∧ w'.cell? ⟨p, 15, none⟩ = some z.kv ∧ w'.cell? ⟨q, 13, none⟩ = some (.int .i64 t.f) ∧ w'.cell? ⟨q, 14, none⟩ = some (.int .i64 t.pc) ∧ w'.cell? ⟨q, 12, none⟩ = some (.int .u64 t.at_) ∧ w'.cell? ⟨q, 15, none⟩ = some y.kv) w') := Lib.hid (fun w' r => by
  have ho := r.heap H.out.obj (by simp)
  have ho2 := r.heap K.out.obj (by simp)
  exact ⟨cell_of_heap ho rfl, cell_of_heap ho rfl, cell_of_heap ho rfl, cell_of_heap ho rfl, cell_of_heap ho2 rfl, cell_of_heap ho2 rfl, cell_of_heap ho2 rfl, cell_of_heap ho2 rfl⟩)
 have SS4 : Hid (∀ w', Fr no w w' → (fun w' => w'.cell? ⟨p, 8, none⟩ = some (.pointer (some ⟨z.q, 0, none⟩)) ∧ At w' p 4 [.slice z.da s.m.d.length z.dc, .slice z.fa s.m.f.length z.fc] ∧ w'.cell? ⟨q, 8, none⟩ = some (.pointer (some ⟨y.q, 0, none⟩)) ∧ At w' q 4 [.slice y.da t.m.d.length y.dc, .slice y.fa t.m.f.length y.fc]) w') := Lib.hid (fun w' r => by
  have ho := r.heap H.out.obj (by simp)
  have ho2 := r.heap K.out.obj (by simp)
  exact ⟨cell_of_heap ho rfl, at_mid ho (fun j v hj => by
    match j, hj with
    | 0, h => cases h; rfl
    | 1, h => cases h; rfl), cell_of_heap ho2 rfl, at_mid ho2 (fun j v hj => by
    match j, hj with
    | 0, h => cases h; rfl
    | 1, h => cases h; rfl)⟩)
 have R3 := Lib.hid (Fr.refl no w).drew
 have S3 := Lib.hid (SS3.out _ R3.out)
 have H3 := Lib.hid (H.out.fr R3.out)
 have K3 := Lib.hid (K.out.fr R3.out)
 by_cases h0 : s.f = t.f
 case neg =>
  have e0 : ((s.f : Int) == (t.f : Int)) = false := beq_eq_false_iff_ne.2 (by omega)
  have HQ : Hid (sameS s t = false) := Lib.hid (by simp [sameS, h0])
  clear h0
  refine Lex.region [33, 35, 47] [50] (by kernel_rfl) (by kernel_rfl) ?_
  refine Lex.opens (fun w' => w'.cell? ⟨p, 13, none⟩ = some (.int .i64 s.f) ∧ w'.cell? ⟨p, 14, none⟩ = some (.int .i64 s.pc) ∧ w'.cell? ⟨p, 12, none⟩ = some (.int .u64 s.at_) ∧ w'.cell? ⟨p, 15, none⟩ = some z.kv ∧ w'.cell? ⟨q, 13, none⟩ = some (.int .i64 t.f) ∧ w'.cell? ⟨q, 14, none⟩ = some (.int .i64 t.pc) ∧ w'.cell? ⟨q, 12, none⟩ = some (.int .u64 t.at_) ∧ w'.cell? ⟨q, 15, none⟩ = some y.kv) (S3.out) ?_
  repeat ((first | refine Lex.skips (by rfl) ?_ | (refine Lex.quiet (v := ?_) (by rfl) (by rfl) ?_ ?_; rotate_left; focus (intro w' hS'; go_simp; try rfl))); try simp only [Act.put, List.setIfInBounds_toArray, List.set_cons_zero, List.set_cons_succ])
  have R4 := R3
  refine Lex.done ?_
  refine Lex.ends ?_
  go_wp2_with fail
  go_upto_region 4 with (fail)
  have R5 := Lib.hid (R4.out.trans (Fr.refl no _).drew)
  have S5 := Lib.hid (SS4.out _ R5.out)
  refine Lex.region [10, 21, 25, 27, 28, 32, 34, 35] [38] (by kernel_rfl) (by kernel_rfl) ?_
  refine Lex.opens (fun w' => w'.cell? ⟨p, 8, none⟩ = some (.pointer (some ⟨z.q, 0, none⟩)) ∧ At w' p 4 [.slice z.da s.m.d.length z.dc, .slice z.fa s.m.f.length z.fc] ∧ w'.cell? ⟨q, 8, none⟩ = some (.pointer (some ⟨y.q, 0, none⟩)) ∧ At w' q 4 [.slice y.da t.m.d.length y.dc, .slice y.fa t.m.f.length y.fc]) (S5.out) ?_
  repeat ((first | refine Lex.skips (by rfl) ?_ | (refine Lex.quiet (v := ?_) (by rfl) (by rfl) ?_ ?_; rotate_left; focus (intro w' hS'; go_simp; try rfl))); try simp only [Act.put, List.setIfInBounds_toArray, List.set_cons_zero, List.set_cons_succ])
  refine Lex.done ?_
  refine Lex.ends ?_
  go_wp2_with fail
  go_ret
  exact ⟨by rw [HQ.out]; rfl, R5.out⟩
 have e0 : ((s.f : Int) == (t.f : Int)) = true := beq_iff_eq.2 (by omega)
 have G0 := Lib.hid h0
 clear h0
 by_cases h1 : s.pc = t.pc
 case neg =>
  have e1 : (s.pc == t.pc) = false := beq_eq_false_iff_ne.2 (by omega)
  have HQ : Hid (sameS s t = false) := Lib.hid (by simp [sameS, h1])
  clear h1
  refine Lex.region [33, 35, 47] [50] (by kernel_rfl) (by kernel_rfl) ?_
  refine Lex.opens (fun w' => w'.cell? ⟨p, 13, none⟩ = some (.int .i64 s.f) ∧ w'.cell? ⟨p, 14, none⟩ = some (.int .i64 s.pc) ∧ w'.cell? ⟨p, 12, none⟩ = some (.int .u64 s.at_) ∧ w'.cell? ⟨p, 15, none⟩ = some z.kv ∧ w'.cell? ⟨q, 13, none⟩ = some (.int .i64 t.f) ∧ w'.cell? ⟨q, 14, none⟩ = some (.int .i64 t.pc) ∧ w'.cell? ⟨q, 12, none⟩ = some (.int .u64 t.at_) ∧ w'.cell? ⟨q, 15, none⟩ = some y.kv) (S3.out) ?_
  repeat ((first | refine Lex.skips (by rfl) ?_ | (refine Lex.quiet (v := ?_) (by rfl) (by rfl) ?_ ?_; rotate_left; focus (intro w' hS'; go_simp; try rfl))); try simp only [Act.put, List.setIfInBounds_toArray, List.set_cons_zero, List.set_cons_succ])
  have R4 := R3
  refine Lex.done ?_
  refine Lex.ends ?_
  go_wp2_with fail
  go_upto_region 4 with (fail)
  have R5 := Lib.hid (R4.out.trans (Fr.refl no _).drew)
  have S5 := Lib.hid (SS4.out _ R5.out)
  refine Lex.region [10, 21, 25, 27, 28, 32, 34, 35] [38] (by kernel_rfl) (by kernel_rfl) ?_
  refine Lex.opens (fun w' => w'.cell? ⟨p, 8, none⟩ = some (.pointer (some ⟨z.q, 0, none⟩)) ∧ At w' p 4 [.slice z.da s.m.d.length z.dc, .slice z.fa s.m.f.length z.fc] ∧ w'.cell? ⟨q, 8, none⟩ = some (.pointer (some ⟨y.q, 0, none⟩)) ∧ At w' q 4 [.slice y.da t.m.d.length y.dc, .slice y.fa t.m.f.length y.fc]) (S5.out) ?_
  repeat ((first | refine Lex.skips (by rfl) ?_ | (refine Lex.quiet (v := ?_) (by rfl) (by rfl) ?_ ?_; rotate_left; focus (intro w' hS'; go_simp; try rfl))); try simp only [Act.put, List.setIfInBounds_toArray, List.set_cons_zero, List.set_cons_succ])
  refine Lex.done ?_
  refine Lex.ends ?_
  go_wp2_with fail
  go_ret
  exact ⟨by rw [HQ.out]; rfl, R5.out⟩
 have e1 : (s.pc == t.pc) = true := beq_iff_eq.2 (by omega)
 have G1 := Lib.hid h1
 clear h1
 by_cases h2 : s.at_ = t.at_
 case neg =>
  have e2 : ((s.at_ : Int) == (t.at_ : Int)) = false := beq_eq_false_iff_ne.2 (by omega)
  have HQ : Hid (sameS s t = false) := Lib.hid (by simp [sameS, h2])
  clear h2
  refine Lex.region [33, 35, 47] [50] (by kernel_rfl) (by kernel_rfl) ?_
  refine Lex.opens (fun w' => w'.cell? ⟨p, 13, none⟩ = some (.int .i64 s.f) ∧ w'.cell? ⟨p, 14, none⟩ = some (.int .i64 s.pc) ∧ w'.cell? ⟨p, 12, none⟩ = some (.int .u64 s.at_) ∧ w'.cell? ⟨p, 15, none⟩ = some z.kv ∧ w'.cell? ⟨q, 13, none⟩ = some (.int .i64 t.f) ∧ w'.cell? ⟨q, 14, none⟩ = some (.int .i64 t.pc) ∧ w'.cell? ⟨q, 12, none⟩ = some (.int .u64 t.at_) ∧ w'.cell? ⟨q, 15, none⟩ = some y.kv) (S3.out) ?_
  repeat ((first | refine Lex.skips (by rfl) ?_ | (refine Lex.quiet (v := ?_) (by rfl) (by rfl) ?_ ?_; rotate_left; focus (intro w' hS'; go_simp; try rfl))); try simp only [Act.put, List.setIfInBounds_toArray, List.set_cons_zero, List.set_cons_succ])
  have R4 := R3
  refine Lex.done ?_
  refine Lex.ends ?_
  go_wp2_with fail
  go_upto_region 4 with (fail)
  have R5 := Lib.hid (R4.out.trans (Fr.refl no _).drew)
  have S5 := Lib.hid (SS4.out _ R5.out)
  refine Lex.region [10, 21, 25, 27, 28, 32, 34, 35] [38] (by kernel_rfl) (by kernel_rfl) ?_
  refine Lex.opens (fun w' => w'.cell? ⟨p, 8, none⟩ = some (.pointer (some ⟨z.q, 0, none⟩)) ∧ At w' p 4 [.slice z.da s.m.d.length z.dc, .slice z.fa s.m.f.length z.fc] ∧ w'.cell? ⟨q, 8, none⟩ = some (.pointer (some ⟨y.q, 0, none⟩)) ∧ At w' q 4 [.slice y.da t.m.d.length y.dc, .slice y.fa t.m.f.length y.fc]) (S5.out) ?_
  repeat ((first | refine Lex.skips (by rfl) ?_ | (refine Lex.quiet (v := ?_) (by rfl) (by rfl) ?_ ?_; rotate_left; focus (intro w' hS'; go_simp; try rfl))); try simp only [Act.put, List.setIfInBounds_toArray, List.set_cons_zero, List.set_cons_succ])
  refine Lex.done ?_
  refine Lex.ends ?_
  go_wp2_with fail
  go_ret
  exact ⟨by rw [HQ.out]; rfl, R5.out⟩
 have e2 : ((s.at_ : Int) == (t.at_ : Int)) = true := beq_iff_eq.2 (by omega)
 have G2 := Lib.hid h2
 clear h2
 by_cases h3 : s.fuel = t.fuel
 case neg =>
  have e3 : (s.fuel == t.fuel) = false := beq_eq_false_iff_ne.2 (by omega)
  have HQ : Hid (sameS s t = false) := Lib.hid (by simp [sameS, h3])
  clear h3
  refine Lex.region [33, 35, 47] [50] (by kernel_rfl) (by kernel_rfl) ?_
  refine Lex.opens (fun w' => w'.cell? ⟨p, 13, none⟩ = some (.int .i64 s.f) ∧ w'.cell? ⟨p, 14, none⟩ = some (.int .i64 s.pc) ∧ w'.cell? ⟨p, 12, none⟩ = some (.int .u64 s.at_) ∧ w'.cell? ⟨p, 15, none⟩ = some z.kv ∧ w'.cell? ⟨q, 13, none⟩ = some (.int .i64 t.f) ∧ w'.cell? ⟨q, 14, none⟩ = some (.int .i64 t.pc) ∧ w'.cell? ⟨q, 12, none⟩ = some (.int .u64 t.at_) ∧ w'.cell? ⟨q, 15, none⟩ = some y.kv) (S3.out) ?_
  repeat ((first | refine Lex.skips (by rfl) ?_ | (refine Lex.quiet (v := ?_) (by rfl) (by rfl) ?_ ?_; rotate_left; focus (intro w' hS'; go_simp; try rfl))); try simp only [Act.put, List.setIfInBounds_toArray, List.set_cons_zero, List.set_cons_succ])
  refine Lex.loud (by rfl) (by rfl) ?_
  intro K' hK'
  go_simp
  refine (sfuel_ok _ H3.out).mono ?_
  rintro e w' ⟨rfl, rfl⟩
  refine hK' _ _ (S3.out) ?_
  clear hK'
  try simp only [Act.put, List.setIfInBounds_toArray, List.set_cons_zero, List.set_cons_succ]
  repeat ((first | refine Lex.skips (by rfl) ?_ | (refine Lex.quiet (v := ?_) (by rfl) (by rfl) ?_ ?_; rotate_left; focus (intro w' hS'; go_simp; try rfl))); try simp only [Act.put, List.setIfInBounds_toArray, List.set_cons_zero, List.set_cons_succ])
  refine Lex.loud (by rfl) (by rfl) ?_
  intro K' hK'
  go_simp
  refine (sfuel_ok _ K3.out).mono ?_
  rintro e w' ⟨rfl, rfl⟩
  refine hK' _ _ (S3.out) ?_
  clear hK'
  try simp only [Act.put, List.setIfInBounds_toArray, List.set_cons_zero, List.set_cons_succ]
  repeat ((first | refine Lex.skips (by rfl) ?_ | (refine Lex.quiet (v := ?_) (by rfl) (by rfl) ?_ ?_; rotate_left; focus (intro w' hS'; go_simp; try rfl))); try simp only [Act.put, List.setIfInBounds_toArray, List.set_cons_zero, List.set_cons_succ])
  have R4 := R3
  refine Lex.done ?_
  refine Lex.ends ?_
  go_wp2_with fail
  go_upto_region 4 with (fail)
  have R5 := Lib.hid (R4.out.trans (Fr.refl no _).drew)
  have S5 := Lib.hid (SS4.out _ R5.out)
  refine Lex.region [10, 21, 25, 27, 28, 32, 34, 35] [38] (by kernel_rfl) (by kernel_rfl) ?_
  refine Lex.opens (fun w' => w'.cell? ⟨p, 8, none⟩ = some (.pointer (some ⟨z.q, 0, none⟩)) ∧ At w' p 4 [.slice z.da s.m.d.length z.dc, .slice z.fa s.m.f.length z.fc] ∧ w'.cell? ⟨q, 8, none⟩ = some (.pointer (some ⟨y.q, 0, none⟩)) ∧ At w' q 4 [.slice y.da t.m.d.length y.dc, .slice y.fa t.m.f.length y.fc]) (S5.out) ?_
  repeat ((first | refine Lex.skips (by rfl) ?_ | (refine Lex.quiet (v := ?_) (by rfl) (by rfl) ?_ ?_; rotate_left; focus (intro w' hS'; go_simp; try rfl))); try simp only [Act.put, List.setIfInBounds_toArray, List.set_cons_zero, List.set_cons_succ])
  refine Lex.done ?_
  refine Lex.ends ?_
  go_wp2_with fail
  go_ret
  exact ⟨by rw [HQ.out]; rfl, R5.out⟩
 have e3 : (s.fuel == t.fuel) = true := beq_iff_eq.2 (by omega)
 have G3 := Lib.hid h3
 clear h3
 by_cases h4 : s.ls = t.ls
 case neg =>
  have E4 : Hid (decide (s.ls = t.ls) = false) := Lib.hid (decide_eq_false h4)
  have HQ : Hid (sameS s t = false) := Lib.hid (by simp [sameS, h4])
  clear h4
  refine Lex.region [33, 35, 47] [50] (by kernel_rfl) (by kernel_rfl) ?_
  refine Lex.opens (fun w' => w'.cell? ⟨p, 13, none⟩ = some (.int .i64 s.f) ∧ w'.cell? ⟨p, 14, none⟩ = some (.int .i64 s.pc) ∧ w'.cell? ⟨p, 12, none⟩ = some (.int .u64 s.at_) ∧ w'.cell? ⟨p, 15, none⟩ = some z.kv ∧ w'.cell? ⟨q, 13, none⟩ = some (.int .i64 t.f) ∧ w'.cell? ⟨q, 14, none⟩ = some (.int .i64 t.pc) ∧ w'.cell? ⟨q, 12, none⟩ = some (.int .u64 t.at_) ∧ w'.cell? ⟨q, 15, none⟩ = some y.kv) (S3.out) ?_
  repeat ((first | refine Lex.skips (by rfl) ?_ | (refine Lex.quiet (v := ?_) (by rfl) (by rfl) ?_ ?_; rotate_left; focus (intro w' hS'; go_simp; try rfl))); try simp only [Act.put, List.setIfInBounds_toArray, List.set_cons_zero, List.set_cons_succ])
  refine Lex.loud (by rfl) (by rfl) ?_
  intro K' hK'
  go_simp
  refine (sfuel_ok _ H3.out).mono ?_
  rintro e w' ⟨rfl, rfl⟩
  refine hK' _ _ (S3.out) ?_
  clear hK'
  try simp only [Act.put, List.setIfInBounds_toArray, List.set_cons_zero, List.set_cons_succ]
  repeat ((first | refine Lex.skips (by rfl) ?_ | (refine Lex.quiet (v := ?_) (by rfl) (by rfl) ?_ ?_; rotate_left; focus (intro w' hS'; go_simp; try rfl))); try simp only [Act.put, List.setIfInBounds_toArray, List.set_cons_zero, List.set_cons_succ])
  refine Lex.loud (by rfl) (by rfl) ?_
  intro K' hK'
  go_simp
  refine (sfuel_ok _ K3.out).mono ?_
  rintro e w' ⟨rfl, rfl⟩
  refine hK' _ _ (S3.out) ?_
  clear hK'
  try simp only [Act.put, List.setIfInBounds_toArray, List.set_cons_zero, List.set_cons_succ]
  repeat ((first | refine Lex.skips (by rfl) ?_ | (refine Lex.quiet (v := ?_) (by rfl) (by rfl) ?_ ?_; rotate_left; focus (intro w' hS'; go_simp; try rfl))); try simp only [Act.put, List.setIfInBounds_toArray, List.set_cons_zero, List.set_cons_succ])
  refine Lex.loud (by rfl) (by rfl) ?_
  intro K' hK'
  go_simp
  refine (eqlinks_ok w.drew _ _ s.ls t.ls (owns_reads H3.out.links) (owns_reads K3.out.links) (by have := HLL.out; omega)).mono ?_
  rintro e w4 ⟨rfl, r4⟩
  rw [E4.out]
  have R4 := Lib.hid (R3.out.trans r4)
  have S4 := Lib.hid (SS3.out _ R4.out)
  clear r4
  refine hK' _ _ (S4.out) ?_
  clear hK'
  try simp only [Act.put, List.setIfInBounds_toArray, List.set_cons_zero, List.set_cons_succ]
  repeat ((first | refine Lex.skips (by rfl) ?_ | (refine Lex.quiet (v := ?_) (by rfl) (by rfl) ?_ ?_; rotate_left; focus (intro w' hS'; go_simp; try rfl))); try simp only [Act.put, List.setIfInBounds_toArray, List.set_cons_zero, List.set_cons_succ])
  refine Lex.done ?_
  refine Lex.ends ?_
  go_wp2_with fail
  go_upto_region 4 with (fail)
  have R5 := Lib.hid (R4.out.trans (Fr.refl no _).drew)
  have S5 := Lib.hid (SS4.out _ R5.out)
  refine Lex.region [10, 21, 25, 27, 28, 32, 34, 35] [38] (by kernel_rfl) (by kernel_rfl) ?_
  refine Lex.opens (fun w' => w'.cell? ⟨p, 8, none⟩ = some (.pointer (some ⟨z.q, 0, none⟩)) ∧ At w' p 4 [.slice z.da s.m.d.length z.dc, .slice z.fa s.m.f.length z.fc] ∧ w'.cell? ⟨q, 8, none⟩ = some (.pointer (some ⟨y.q, 0, none⟩)) ∧ At w' q 4 [.slice y.da t.m.d.length y.dc, .slice y.fa t.m.f.length y.fc]) (S5.out) ?_
  repeat ((first | refine Lex.skips (by rfl) ?_ | (refine Lex.quiet (v := ?_) (by rfl) (by rfl) ?_ ?_; rotate_left; focus (intro w' hS'; go_simp; try rfl))); try simp only [Act.put, List.setIfInBounds_toArray, List.set_cons_zero, List.set_cons_succ])
  refine Lex.done ?_
  refine Lex.ends ?_
  go_wp2_with fail
  go_ret
  exact ⟨by rw [HQ.out]; rfl, R5.out⟩
 have E4 : Hid (decide (s.ls = t.ls) = true) := Lib.hid (decide_eq_true h4)
 clear h4
 by_cases h5 : s.m = t.m
 case neg =>
  have E5 : Hid (decide (s.m = t.m) = false) := Lib.hid (decide_eq_false h5)
  have HQ : Hid (sameS s t = false) := Lib.hid (by simp [sameS, h5])
  clear h5
  refine Lex.region [33, 35, 47] [50] (by kernel_rfl) (by kernel_rfl) ?_
  refine Lex.opens (fun w' => w'.cell? ⟨p, 13, none⟩ = some (.int .i64 s.f) ∧ w'.cell? ⟨p, 14, none⟩ = some (.int .i64 s.pc) ∧ w'.cell? ⟨p, 12, none⟩ = some (.int .u64 s.at_) ∧ w'.cell? ⟨p, 15, none⟩ = some z.kv ∧ w'.cell? ⟨q, 13, none⟩ = some (.int .i64 t.f) ∧ w'.cell? ⟨q, 14, none⟩ = some (.int .i64 t.pc) ∧ w'.cell? ⟨q, 12, none⟩ = some (.int .u64 t.at_) ∧ w'.cell? ⟨q, 15, none⟩ = some y.kv) (S3.out) ?_
  repeat ((first | refine Lex.skips (by rfl) ?_ | (refine Lex.quiet (v := ?_) (by rfl) (by rfl) ?_ ?_; rotate_left; focus (intro w' hS'; go_simp; try rfl))); try simp only [Act.put, List.setIfInBounds_toArray, List.set_cons_zero, List.set_cons_succ])
  refine Lex.loud (by rfl) (by rfl) ?_
  intro K' hK'
  go_simp
  refine (sfuel_ok _ H3.out).mono ?_
  rintro e w' ⟨rfl, rfl⟩
  refine hK' _ _ (S3.out) ?_
  clear hK'
  try simp only [Act.put, List.setIfInBounds_toArray, List.set_cons_zero, List.set_cons_succ]
  repeat ((first | refine Lex.skips (by rfl) ?_ | (refine Lex.quiet (v := ?_) (by rfl) (by rfl) ?_ ?_; rotate_left; focus (intro w' hS'; go_simp; try rfl))); try simp only [Act.put, List.setIfInBounds_toArray, List.set_cons_zero, List.set_cons_succ])
  refine Lex.loud (by rfl) (by rfl) ?_
  intro K' hK'
  go_simp
  refine (sfuel_ok _ K3.out).mono ?_
  rintro e w' ⟨rfl, rfl⟩
  refine hK' _ _ (S3.out) ?_
  clear hK'
  try simp only [Act.put, List.setIfInBounds_toArray, List.set_cons_zero, List.set_cons_succ]
  repeat ((first | refine Lex.skips (by rfl) ?_ | (refine Lex.quiet (v := ?_) (by rfl) (by rfl) ?_ ?_; rotate_left; focus (intro w' hS'; go_simp; try rfl))); try simp only [Act.put, List.setIfInBounds_toArray, List.set_cons_zero, List.set_cons_succ])
  refine Lex.loud (by rfl) (by rfl) ?_
  intro K' hK'
  go_simp
  refine (eqlinks_ok w.drew _ _ s.ls t.ls (owns_reads H3.out.links) (owns_reads K3.out.links) (by have := HLL.out; omega)).mono ?_
  rintro e w4 ⟨rfl, r4⟩
  rw [E4.out]
  have R4 := Lib.hid (R3.out.trans r4)
  have S4 := Lib.hid (SS3.out _ R4.out)
  clear r4
  refine hK' _ _ (S4.out) ?_
  clear hK'
  try simp only [Act.put, List.setIfInBounds_toArray, List.set_cons_zero, List.set_cons_succ]
  repeat ((first | refine Lex.skips (by rfl) ?_ | (refine Lex.quiet (v := ?_) (by rfl) (by rfl) ?_ ?_; rotate_left; focus (intro w' hS'; go_simp; try rfl))); try simp only [Act.put, List.setIfInBounds_toArray, List.set_cons_zero, List.set_cons_succ])
  refine Lex.done ?_
  refine Lex.ends ?_
  go_wp2_with fail
  go_upto_region 4 with (fail)
  have R5 := Lib.hid (R4.out.trans (Fr.refl no _).drew)
  have S5 := Lib.hid (SS4.out _ R5.out)
  have H5 := Lib.hid (H.out.fr R5.out)
  have K5 := Lib.hid (K.out.fr R5.out)
  refine Lex.region [10, 21, 25, 27, 28, 32, 34, 35] [38] (by kernel_rfl) (by kernel_rfl) ?_
  refine Lex.opens (fun w' => w'.cell? ⟨p, 8, none⟩ = some (.pointer (some ⟨z.q, 0, none⟩)) ∧ At w' p 4 [.slice z.da s.m.d.length z.dc, .slice z.fa s.m.f.length z.fc] ∧ w'.cell? ⟨q, 8, none⟩ = some (.pointer (some ⟨y.q, 0, none⟩)) ∧ At w' q 4 [.slice y.da t.m.d.length y.dc, .slice y.fa t.m.f.length y.fc]) (S5.out) ?_
  repeat ((first | refine Lex.skips (by rfl) ?_ | (refine Lex.into (by rfl) (by rfl) _ _ rfl _ _ rfl _ _ ((fun _ h => h.2.1)) Tryz.underlying25 rfl (by rw [Tryz.infoMod]; rfl) ?_) | (refine Lex.into (by rfl) (by rfl) _ _ rfl _ _ rfl _ _ ((fun _ h => h.2.2.2)) Tryz.underlying25 rfl (by rw [Tryz.infoMod]; rfl) ?_) | (refine Lex.quiet (v := ?_) (by rfl) (by rfl) ?_ ?_; rotate_left; focus (intro w' hS'; go_simp; try rfl))); try simp only [Act.put, List.setIfInBounds_toArray, List.set_cons_zero, List.set_cons_succ])
  refine Lex.loud (by rfl) (by rfl) ?_
  intro K' hK'
  go_simp
  refine (samemod_ok _ s.m t.m z.da z.fa y.da y.fa z.dc z.fc y.dc y.fc H5.out.tabs K5.out.tabs H5.out.ok.sm K5.out.ok.sm).mono ?_
  rintro e w6 ⟨rfl, r6⟩
  rw [E5.out]
  have R6 := Lib.hid (R5.out.trans r6)
  have S6 := Lib.hid (SS4.out _ R6.out)
  clear r6
  refine hK' _ _ (S6.out) ?_
  clear hK'
  try simp only [Act.put, List.setIfInBounds_toArray, List.set_cons_zero, List.set_cons_succ]
  repeat ((first | refine Lex.skips (by rfl) ?_ | (refine Lex.into (by rfl) (by rfl) _ _ rfl _ _ rfl _ _ ((fun _ h => h.2.1)) Tryz.underlying25 rfl (by rw [Tryz.infoMod]; rfl) ?_) | (refine Lex.into (by rfl) (by rfl) _ _ rfl _ _ rfl _ _ ((fun _ h => h.2.2.2)) Tryz.underlying25 rfl (by rw [Tryz.infoMod]; rfl) ?_) | (refine Lex.quiet (v := ?_) (by rfl) (by rfl) ?_ ?_; rotate_left; focus (intro w' hS'; go_simp; try rfl))); try simp only [Act.put, List.setIfInBounds_toArray, List.set_cons_zero, List.set_cons_succ])
  refine Lex.done ?_
  refine Lex.ends ?_
  go_wp2_with fail
  go_ret
  exact ⟨by rw [HQ.out]; rfl, R6.out⟩
 have E5 : Hid (decide (s.m = t.m) = true) := Lib.hid (decide_eq_true h5)
 clear h5
 by_cases h6 : s.b = t.b
 case neg =>
  have E6 : Hid (decide (s.b = t.b) = false) := Lib.hid (decide_eq_false h6)
  have HQ : Hid (sameS s t = false) := Lib.hid (by simp [sameS, h6])
  clear h6
  refine Lex.region [33, 35, 47] [50] (by kernel_rfl) (by kernel_rfl) ?_
  refine Lex.opens (fun w' => w'.cell? ⟨p, 13, none⟩ = some (.int .i64 s.f) ∧ w'.cell? ⟨p, 14, none⟩ = some (.int .i64 s.pc) ∧ w'.cell? ⟨p, 12, none⟩ = some (.int .u64 s.at_) ∧ w'.cell? ⟨p, 15, none⟩ = some z.kv ∧ w'.cell? ⟨q, 13, none⟩ = some (.int .i64 t.f) ∧ w'.cell? ⟨q, 14, none⟩ = some (.int .i64 t.pc) ∧ w'.cell? ⟨q, 12, none⟩ = some (.int .u64 t.at_) ∧ w'.cell? ⟨q, 15, none⟩ = some y.kv) (S3.out) ?_
  repeat ((first | refine Lex.skips (by rfl) ?_ | (refine Lex.quiet (v := ?_) (by rfl) (by rfl) ?_ ?_; rotate_left; focus (intro w' hS'; go_simp; try rfl))); try simp only [Act.put, List.setIfInBounds_toArray, List.set_cons_zero, List.set_cons_succ])
  refine Lex.loud (by rfl) (by rfl) ?_
  intro K' hK'
  go_simp
  refine (sfuel_ok _ H3.out).mono ?_
  rintro e w' ⟨rfl, rfl⟩
  refine hK' _ _ (S3.out) ?_
  clear hK'
  try simp only [Act.put, List.setIfInBounds_toArray, List.set_cons_zero, List.set_cons_succ]
  repeat ((first | refine Lex.skips (by rfl) ?_ | (refine Lex.quiet (v := ?_) (by rfl) (by rfl) ?_ ?_; rotate_left; focus (intro w' hS'; go_simp; try rfl))); try simp only [Act.put, List.setIfInBounds_toArray, List.set_cons_zero, List.set_cons_succ])
  refine Lex.loud (by rfl) (by rfl) ?_
  intro K' hK'
  go_simp
  refine (sfuel_ok _ K3.out).mono ?_
  rintro e w' ⟨rfl, rfl⟩
  refine hK' _ _ (S3.out) ?_
  clear hK'
  try simp only [Act.put, List.setIfInBounds_toArray, List.set_cons_zero, List.set_cons_succ]
  repeat ((first | refine Lex.skips (by rfl) ?_ | (refine Lex.quiet (v := ?_) (by rfl) (by rfl) ?_ ?_; rotate_left; focus (intro w' hS'; go_simp; try rfl))); try simp only [Act.put, List.setIfInBounds_toArray, List.set_cons_zero, List.set_cons_succ])
  refine Lex.loud (by rfl) (by rfl) ?_
  intro K' hK'
  go_simp
  refine (eqlinks_ok w.drew _ _ s.ls t.ls (owns_reads H3.out.links) (owns_reads K3.out.links) (by have := HLL.out; omega)).mono ?_
  rintro e w4 ⟨rfl, r4⟩
  rw [E4.out]
  have R4 := Lib.hid (R3.out.trans r4)
  have S4 := Lib.hid (SS3.out _ R4.out)
  clear r4
  refine hK' _ _ (S4.out) ?_
  clear hK'
  try simp only [Act.put, List.setIfInBounds_toArray, List.set_cons_zero, List.set_cons_succ]
  repeat ((first | refine Lex.skips (by rfl) ?_ | (refine Lex.quiet (v := ?_) (by rfl) (by rfl) ?_ ?_; rotate_left; focus (intro w' hS'; go_simp; try rfl))); try simp only [Act.put, List.setIfInBounds_toArray, List.set_cons_zero, List.set_cons_succ])
  refine Lex.done ?_
  refine Lex.ends ?_
  go_wp2_with fail
  go_upto_region 4 with (fail)
  have R5 := Lib.hid (R4.out.trans (Fr.refl no _).drew)
  have S5 := Lib.hid (SS4.out _ R5.out)
  have H5 := Lib.hid (H.out.fr R5.out)
  have K5 := Lib.hid (K.out.fr R5.out)
  refine Lex.region [10, 21, 25, 27, 28, 32, 34, 35] [38] (by kernel_rfl) (by kernel_rfl) ?_
  refine Lex.opens (fun w' => w'.cell? ⟨p, 8, none⟩ = some (.pointer (some ⟨z.q, 0, none⟩)) ∧ At w' p 4 [.slice z.da s.m.d.length z.dc, .slice z.fa s.m.f.length z.fc] ∧ w'.cell? ⟨q, 8, none⟩ = some (.pointer (some ⟨y.q, 0, none⟩)) ∧ At w' q 4 [.slice y.da t.m.d.length y.dc, .slice y.fa t.m.f.length y.fc]) (S5.out) ?_
  repeat ((first | refine Lex.skips (by rfl) ?_ | (refine Lex.into (by rfl) (by rfl) _ _ rfl _ _ rfl _ _ ((fun _ h => h.2.1)) Tryz.underlying25 rfl (by rw [Tryz.infoMod]; rfl) ?_) | (refine Lex.into (by rfl) (by rfl) _ _ rfl _ _ rfl _ _ ((fun _ h => h.2.2.2)) Tryz.underlying25 rfl (by rw [Tryz.infoMod]; rfl) ?_) | (refine Lex.quiet (v := ?_) (by rfl) (by rfl) ?_ ?_; rotate_left; focus (intro w' hS'; go_simp; try rfl))); try simp only [Act.put, List.setIfInBounds_toArray, List.set_cons_zero, List.set_cons_succ])
  refine Lex.loud (by rfl) (by rfl) ?_
  intro K' hK'
  go_simp
  refine (samemod_ok _ s.m t.m z.da z.fa y.da y.fa z.dc z.fc y.dc y.fc H5.out.tabs K5.out.tabs H5.out.ok.sm K5.out.ok.sm).mono ?_
  rintro e w6 ⟨rfl, r6⟩
  rw [E5.out]
  have R6 := Lib.hid (R5.out.trans r6)
  have S6 := Lib.hid (SS4.out _ R6.out)
  clear r6
  refine hK' _ _ (S6.out) ?_
  clear hK'
  try simp only [Act.put, List.setIfInBounds_toArray, List.set_cons_zero, List.set_cons_succ]
  repeat ((first | refine Lex.skips (by rfl) ?_ | (refine Lex.into (by rfl) (by rfl) _ _ rfl _ _ rfl _ _ ((fun _ h => h.2.1)) Tryz.underlying25 rfl (by rw [Tryz.infoMod]; rfl) ?_) | (refine Lex.into (by rfl) (by rfl) _ _ rfl _ _ rfl _ _ ((fun _ h => h.2.2.2)) Tryz.underlying25 rfl (by rw [Tryz.infoMod]; rfl) ?_) | (refine Lex.quiet (v := ?_) (by rfl) (by rfl) ?_ ?_; rotate_left; focus (intro w' hS'; go_simp; try rfl))); try simp only [Act.put, List.setIfInBounds_toArray, List.set_cons_zero, List.set_cons_succ])
  refine Lex.loud (by rfl) (by rfl) ?_
  intro K' hK'
  go_simp
  refine (msame_ok _ (H.out.fr R6.out).mem (K.out.fr R6.out).mem).mono ?_
  rintro e w7 ⟨rfl, r7⟩
  rw [E6.out]
  have R7 := Lib.hid (R6.out.trans r7)
  have S7 := Lib.hid (SS4.out _ R7.out)
  clear r7
  refine hK' _ _ (S7.out) ?_
  clear hK'
  try simp only [Act.put, List.setIfInBounds_toArray, List.set_cons_zero, List.set_cons_succ]
  repeat ((first | refine Lex.skips (by rfl) ?_ | (refine Lex.into (by rfl) (by rfl) _ _ rfl _ _ rfl _ _ ((fun _ h => h.2.1)) Tryz.underlying25 rfl (by rw [Tryz.infoMod]; rfl) ?_) | (refine Lex.into (by rfl) (by rfl) _ _ rfl _ _ rfl _ _ ((fun _ h => h.2.2.2)) Tryz.underlying25 rfl (by rw [Tryz.infoMod]; rfl) ?_) | (refine Lex.quiet (v := ?_) (by rfl) (by rfl) ?_ ?_; rotate_left; focus (intro w' hS'; go_simp; try rfl))); try simp only [Act.put, List.setIfInBounds_toArray, List.set_cons_zero, List.set_cons_succ])
  refine Lex.done ?_
  refine Lex.ends ?_
  go_wp2_with fail
  go_ret
  exact ⟨by rw [HQ.out]; rfl, R7.out⟩
 have E6 : Hid (decide (s.b = t.b) = true) := Lib.hid (decide_eq_true h6)
 clear h6
 cases h7 : sameO s.ds t.ds s.e t.e
 case false =>
  have E7 : Hid (sameO s.ds t.ds (s.e.1, s.e.2) (t.e.1, t.e.2) = false) := Lib.hid h7
  have HQ : Hid (sameS s t = false) := Lib.hid (by simp [sameS, h7])
  clear h7
  refine Lex.region [33, 35, 47] [50] (by kernel_rfl) (by kernel_rfl) ?_
  refine Lex.opens (fun w' => w'.cell? ⟨p, 13, none⟩ = some (.int .i64 s.f) ∧ w'.cell? ⟨p, 14, none⟩ = some (.int .i64 s.pc) ∧ w'.cell? ⟨p, 12, none⟩ = some (.int .u64 s.at_) ∧ w'.cell? ⟨p, 15, none⟩ = some z.kv ∧ w'.cell? ⟨q, 13, none⟩ = some (.int .i64 t.f) ∧ w'.cell? ⟨q, 14, none⟩ = some (.int .i64 t.pc) ∧ w'.cell? ⟨q, 12, none⟩ = some (.int .u64 t.at_) ∧ w'.cell? ⟨q, 15, none⟩ = some y.kv) (S3.out) ?_
  repeat ((first | refine Lex.skips (by rfl) ?_ | (refine Lex.quiet (v := ?_) (by rfl) (by rfl) ?_ ?_; rotate_left; focus (intro w' hS'; go_simp; try rfl))); try simp only [Act.put, List.setIfInBounds_toArray, List.set_cons_zero, List.set_cons_succ])
  refine Lex.loud (by rfl) (by rfl) ?_
  intro K' hK'
  go_simp
  refine (sfuel_ok _ H3.out).mono ?_
  rintro e w' ⟨rfl, rfl⟩
  refine hK' _ _ (S3.out) ?_
  clear hK'
  try simp only [Act.put, List.setIfInBounds_toArray, List.set_cons_zero, List.set_cons_succ]
  repeat ((first | refine Lex.skips (by rfl) ?_ | (refine Lex.quiet (v := ?_) (by rfl) (by rfl) ?_ ?_; rotate_left; focus (intro w' hS'; go_simp; try rfl))); try simp only [Act.put, List.setIfInBounds_toArray, List.set_cons_zero, List.set_cons_succ])
  refine Lex.loud (by rfl) (by rfl) ?_
  intro K' hK'
  go_simp
  refine (sfuel_ok _ K3.out).mono ?_
  rintro e w' ⟨rfl, rfl⟩
  refine hK' _ _ (S3.out) ?_
  clear hK'
  try simp only [Act.put, List.setIfInBounds_toArray, List.set_cons_zero, List.set_cons_succ]
  repeat ((first | refine Lex.skips (by rfl) ?_ | (refine Lex.quiet (v := ?_) (by rfl) (by rfl) ?_ ?_; rotate_left; focus (intro w' hS'; go_simp; try rfl))); try simp only [Act.put, List.setIfInBounds_toArray, List.set_cons_zero, List.set_cons_succ])
  refine Lex.loud (by rfl) (by rfl) ?_
  intro K' hK'
  go_simp
  refine (eqlinks_ok w.drew _ _ s.ls t.ls (owns_reads H3.out.links) (owns_reads K3.out.links) (by have := HLL.out; omega)).mono ?_
  rintro e w4 ⟨rfl, r4⟩
  rw [E4.out]
  have R4 := Lib.hid (R3.out.trans r4)
  have S4 := Lib.hid (SS3.out _ R4.out)
  clear r4
  refine hK' _ _ (S4.out) ?_
  clear hK'
  try simp only [Act.put, List.setIfInBounds_toArray, List.set_cons_zero, List.set_cons_succ]
  repeat ((first | refine Lex.skips (by rfl) ?_ | (refine Lex.quiet (v := ?_) (by rfl) (by rfl) ?_ ?_; rotate_left; focus (intro w' hS'; go_simp; try rfl))); try simp only [Act.put, List.setIfInBounds_toArray, List.set_cons_zero, List.set_cons_succ])
  refine Lex.done ?_
  refine Lex.ends ?_
  go_wp2_with fail
  go_upto_region 4 with (fail)
  have R5 := Lib.hid (R4.out.trans (Fr.refl no _).drew)
  have S5 := Lib.hid (SS4.out _ R5.out)
  have H5 := Lib.hid (H.out.fr R5.out)
  have K5 := Lib.hid (K.out.fr R5.out)
  refine Lex.region [10, 21, 25, 27, 28, 32, 34, 35] [38] (by kernel_rfl) (by kernel_rfl) ?_
  refine Lex.opens (fun w' => w'.cell? ⟨p, 8, none⟩ = some (.pointer (some ⟨z.q, 0, none⟩)) ∧ At w' p 4 [.slice z.da s.m.d.length z.dc, .slice z.fa s.m.f.length z.fc] ∧ w'.cell? ⟨q, 8, none⟩ = some (.pointer (some ⟨y.q, 0, none⟩)) ∧ At w' q 4 [.slice y.da t.m.d.length y.dc, .slice y.fa t.m.f.length y.fc]) (S5.out) ?_
  repeat ((first | refine Lex.skips (by rfl) ?_ | (refine Lex.into (by rfl) (by rfl) _ _ rfl _ _ rfl _ _ ((fun _ h => h.2.1)) Tryz.underlying25 rfl (by rw [Tryz.infoMod]; rfl) ?_) | (refine Lex.into (by rfl) (by rfl) _ _ rfl _ _ rfl _ _ ((fun _ h => h.2.2.2)) Tryz.underlying25 rfl (by rw [Tryz.infoMod]; rfl) ?_) | (refine Lex.quiet (v := ?_) (by rfl) (by rfl) ?_ ?_; rotate_left; focus (intro w' hS'; go_simp; try rfl))); try simp only [Act.put, List.setIfInBounds_toArray, List.set_cons_zero, List.set_cons_succ])
  refine Lex.loud (by rfl) (by rfl) ?_
  intro K' hK'
  go_simp
  refine (samemod_ok _ s.m t.m z.da z.fa y.da y.fa z.dc z.fc y.dc y.fc H5.out.tabs K5.out.tabs H5.out.ok.sm K5.out.ok.sm).mono ?_
  rintro e w6 ⟨rfl, r6⟩
  rw [E5.out]
  have R6 := Lib.hid (R5.out.trans r6)
  have S6 := Lib.hid (SS4.out _ R6.out)
  clear r6
  refine hK' _ _ (S6.out) ?_
  clear hK'
  try simp only [Act.put, List.setIfInBounds_toArray, List.set_cons_zero, List.set_cons_succ]
  repeat ((first | refine Lex.skips (by rfl) ?_ | (refine Lex.into (by rfl) (by rfl) _ _ rfl _ _ rfl _ _ ((fun _ h => h.2.1)) Tryz.underlying25 rfl (by rw [Tryz.infoMod]; rfl) ?_) | (refine Lex.into (by rfl) (by rfl) _ _ rfl _ _ rfl _ _ ((fun _ h => h.2.2.2)) Tryz.underlying25 rfl (by rw [Tryz.infoMod]; rfl) ?_) | (refine Lex.quiet (v := ?_) (by rfl) (by rfl) ?_ ?_; rotate_left; focus (intro w' hS'; go_simp; try rfl))); try simp only [Act.put, List.setIfInBounds_toArray, List.set_cons_zero, List.set_cons_succ])
  refine Lex.loud (by rfl) (by rfl) ?_
  intro K' hK'
  go_simp
  refine (msame_ok _ (H.out.fr R6.out).mem (K.out.fr R6.out).mem).mono ?_
  rintro e w7 ⟨rfl, r7⟩
  rw [E6.out]
  have R7 := Lib.hid (R6.out.trans r7)
  have S7 := Lib.hid (SS4.out _ R7.out)
  clear r7
  refine hK' _ _ (S7.out) ?_
  clear hK'
  try simp only [Act.put, List.setIfInBounds_toArray, List.set_cons_zero, List.set_cons_succ]
  repeat ((first | refine Lex.skips (by rfl) ?_ | (refine Lex.into (by rfl) (by rfl) _ _ rfl _ _ rfl _ _ ((fun _ h => h.2.1)) Tryz.underlying25 rfl (by rw [Tryz.infoMod]; rfl) ?_) | (refine Lex.into (by rfl) (by rfl) _ _ rfl _ _ rfl _ _ ((fun _ h => h.2.2.2)) Tryz.underlying25 rfl (by rw [Tryz.infoMod]; rfl) ?_) | (refine Lex.quiet (v := ?_) (by rfl) (by rfl) ?_ ?_; rotate_left; focus (intro w' hS'; go_simp; try rfl))); try simp only [Act.put, List.setIfInBounds_toArray, List.set_cons_zero, List.set_cons_succ])
  refine Lex.loud (by rfl) (by rfl) ?_
  intro K' hK'
  go_simp
  refine (sout_ok _ (H.out.fr R7.out) (by have := HDS.out.1; omega)).mono ?_
  rintro e w8 ⟨x1, rfl, hx1, r8⟩
  have R8 := Lib.hid (R7.out.trans r8)
  have S8 := Lib.hid (SS4.out _ R8.out)
  have HX1 := Lib.hid (owns_reads hx1)
  clear hx1 r8
  refine hK' _ _ (S8.out) ?_
  clear hK'
  try simp only [Act.put, List.setIfInBounds_toArray, List.set_cons_zero, List.set_cons_succ]
  repeat ((first | refine Lex.skips (by rfl) ?_ | (refine Lex.quiet (v := ?_) (by rfl) (by rfl) ?_ ?_; rotate_left; focus (intro w' hS'; go_simp; try rfl))); try simp only [Act.put, List.setIfInBounds_toArray, List.set_cons_zero, List.set_cons_succ])
  refine Lex.loud (by rfl) (by rfl) ?_
  intro K' hK'
  go_simp
  refine (sout_ok _ (K.out.fr R8.out) (by have := HDS.out.2; omega)).mono ?_
  rintro e w9 ⟨x2, rfl, hx2, r9⟩
  have R9 := Lib.hid (R8.out.trans r9)
  have S9 := Lib.hid (SS4.out _ R9.out)
  have HX2 := Lib.hid (owns_reads hx2)
  have HX1' := Lib.hid (HX1.out.fr r9 (by simp))
  clear hx2 r9
  refine hK' _ _ (S9.out) ?_
  clear hK'
  try simp only [Act.put, List.setIfInBounds_toArray, List.set_cons_zero, List.set_cons_succ]
  repeat ((first | refine Lex.skips (by rfl) ?_ | (refine Lex.quiet (v := ?_) (by rfl) (by rfl) ?_ ?_; rotate_left; focus (intro w' hS'; go_simp; try rfl))); try simp only [Act.put, List.setIfInBounds_toArray, List.set_cons_zero, List.set_cons_succ])
  refine Lex.loud (by rfl) (by rfl) ?_
  intro K' hK'
  go_simp
  refine (sameo_ok _ x1 x2 s.ds t.ds s.e.1 s.e.2 t.e.1 t.e.2 HX1'.out HX2.out (by have := HDS.out.1; omega) (by have := HDS.out.2; omega)).mono ?_
  rintro e w10 ⟨rfl, r10⟩
  rw [E7.out]
  have R10 := Lib.hid (R9.out.trans r10)
  have S10 := Lib.hid (SS4.out _ R10.out)
  clear r10
  refine hK' _ _ (S10.out) ?_
  clear hK'
  try simp only [Act.put, List.setIfInBounds_toArray, List.set_cons_zero, List.set_cons_succ]
  repeat ((first | refine Lex.skips (by rfl) ?_ | (refine Lex.quiet (v := ?_) (by rfl) (by rfl) ?_ ?_; rotate_left; focus (intro w' hS'; go_simp; try rfl))); try simp only [Act.put, List.setIfInBounds_toArray, List.set_cons_zero, List.set_cons_succ])
  refine Lex.done ?_
  refine Lex.ends ?_
  go_wp2_with fail
  go_ret
  exact ⟨by rw [HQ.out]; rfl, R10.out⟩
 have E7 : Hid (sameO s.ds t.ds (s.e.1, s.e.2) (t.e.1, t.e.2) = true) := Lib.hid h7
 have HQ : Hid (sameS s t = decide (s.inp.drop s.pos = t.inp.drop t.pos)) := Lib.hid (by
  unfold sameS
  rw [E4.out, E5.out, E6.out, h7, decide_eq_true G0.out, decide_eq_true G1.out, decide_eq_true G2.out, decide_eq_true G3.out]
  simp)
 clear h7
 refine Lex.region [33, 35, 47] [50] (by kernel_rfl) (by kernel_rfl) ?_
 refine Lex.opens (fun w' => w'.cell? ⟨p, 13, none⟩ = some (.int .i64 s.f) ∧ w'.cell? ⟨p, 14, none⟩ = some (.int .i64 s.pc) ∧ w'.cell? ⟨p, 12, none⟩ = some (.int .u64 s.at_) ∧ w'.cell? ⟨p, 15, none⟩ = some z.kv ∧ w'.cell? ⟨q, 13, none⟩ = some (.int .i64 t.f) ∧ w'.cell? ⟨q, 14, none⟩ = some (.int .i64 t.pc) ∧ w'.cell? ⟨q, 12, none⟩ = some (.int .u64 t.at_) ∧ w'.cell? ⟨q, 15, none⟩ = some y.kv) (S3.out) ?_
 repeat ((first | refine Lex.skips (by rfl) ?_ | (refine Lex.quiet (v := ?_) (by rfl) (by rfl) ?_ ?_; rotate_left; focus (intro w' hS'; go_simp; try rfl))); try simp only [Act.put, List.setIfInBounds_toArray, List.set_cons_zero, List.set_cons_succ])
 refine Lex.loud (by rfl) (by rfl) ?_
 intro K' hK'
 go_simp
 refine (sfuel_ok _ H3.out).mono ?_
 rintro e w' ⟨rfl, rfl⟩
 refine hK' _ _ (S3.out) ?_
 clear hK'
 try simp only [Act.put, List.setIfInBounds_toArray, List.set_cons_zero, List.set_cons_succ]
 repeat ((first | refine Lex.skips (by rfl) ?_ | (refine Lex.quiet (v := ?_) (by rfl) (by rfl) ?_ ?_; rotate_left; focus (intro w' hS'; go_simp; try rfl))); try simp only [Act.put, List.setIfInBounds_toArray, List.set_cons_zero, List.set_cons_succ])
 refine Lex.loud (by rfl) (by rfl) ?_
 intro K' hK'
 go_simp
 refine (sfuel_ok _ K3.out).mono ?_
 rintro e w' ⟨rfl, rfl⟩
 refine hK' _ _ (S3.out) ?_
 clear hK'
 try simp only [Act.put, List.setIfInBounds_toArray, List.set_cons_zero, List.set_cons_succ]
 repeat ((first | refine Lex.skips (by rfl) ?_ | (refine Lex.quiet (v := ?_) (by rfl) (by rfl) ?_ ?_; rotate_left; focus (intro w' hS'; go_simp; try rfl))); try simp only [Act.put, List.setIfInBounds_toArray, List.set_cons_zero, List.set_cons_succ])
 refine Lex.loud (by rfl) (by rfl) ?_
 intro K' hK'
 go_simp
 refine (eqlinks_ok w.drew _ _ s.ls t.ls (owns_reads H3.out.links) (owns_reads K3.out.links) (by have := HLL.out; omega)).mono ?_
 rintro e w4 ⟨rfl, r4⟩
 rw [E4.out]
 have R4 := Lib.hid (R3.out.trans r4)
 have S4 := Lib.hid (SS3.out _ R4.out)
 clear r4
 refine hK' _ _ (S4.out) ?_
 clear hK'
 try simp only [Act.put, List.setIfInBounds_toArray, List.set_cons_zero, List.set_cons_succ]
 repeat ((first | refine Lex.skips (by rfl) ?_ | (refine Lex.quiet (v := ?_) (by rfl) (by rfl) ?_ ?_; rotate_left; focus (intro w' hS'; go_simp; try rfl))); try simp only [Act.put, List.setIfInBounds_toArray, List.set_cons_zero, List.set_cons_succ])
 refine Lex.done ?_
 refine Lex.ends ?_
 go_wp2_with fail
 go_upto_region 4 with (fail)
 have R5 := Lib.hid (R4.out.trans (Fr.refl no _).drew)
 have S5 := Lib.hid (SS4.out _ R5.out)
 have H5 := Lib.hid (H.out.fr R5.out)
 have K5 := Lib.hid (K.out.fr R5.out)
 refine Lex.region [10, 21, 25, 27, 28, 32, 34, 35] [38] (by kernel_rfl) (by kernel_rfl) ?_
 refine Lex.opens (fun w' => w'.cell? ⟨p, 8, none⟩ = some (.pointer (some ⟨z.q, 0, none⟩)) ∧ At w' p 4 [.slice z.da s.m.d.length z.dc, .slice z.fa s.m.f.length z.fc] ∧ w'.cell? ⟨q, 8, none⟩ = some (.pointer (some ⟨y.q, 0, none⟩)) ∧ At w' q 4 [.slice y.da t.m.d.length y.dc, .slice y.fa t.m.f.length y.fc]) (S5.out) ?_
 repeat ((first | refine Lex.skips (by rfl) ?_ | (refine Lex.into (by rfl) (by rfl) _ _ rfl _ _ rfl _ _ ((fun _ h => h.2.1)) Tryz.underlying25 rfl (by rw [Tryz.infoMod]; rfl) ?_) | (refine Lex.into (by rfl) (by rfl) _ _ rfl _ _ rfl _ _ ((fun _ h => h.2.2.2)) Tryz.underlying25 rfl (by rw [Tryz.infoMod]; rfl) ?_) | (refine Lex.quiet (v := ?_) (by rfl) (by rfl) ?_ ?_; rotate_left; focus (intro w' hS'; go_simp; try rfl))); try simp only [Act.put, List.setIfInBounds_toArray, List.set_cons_zero, List.set_cons_succ])
 refine Lex.loud (by rfl) (by rfl) ?_
 intro K' hK'
 go_simp
 refine (samemod_ok _ s.m t.m z.da z.fa y.da y.fa z.dc z.fc y.dc y.fc H5.out.tabs K5.out.tabs H5.out.ok.sm K5.out.ok.sm).mono ?_
 rintro e w6 ⟨rfl, r6⟩
 rw [E5.out]
 have R6 := Lib.hid (R5.out.trans r6)
 have S6 := Lib.hid (SS4.out _ R6.out)
 clear r6
 refine hK' _ _ (S6.out) ?_
 clear hK'
 try simp only [Act.put, List.setIfInBounds_toArray, List.set_cons_zero, List.set_cons_succ]
 repeat ((first | refine Lex.skips (by rfl) ?_ | (refine Lex.into (by rfl) (by rfl) _ _ rfl _ _ rfl _ _ ((fun _ h => h.2.1)) Tryz.underlying25 rfl (by rw [Tryz.infoMod]; rfl) ?_) | (refine Lex.into (by rfl) (by rfl) _ _ rfl _ _ rfl _ _ ((fun _ h => h.2.2.2)) Tryz.underlying25 rfl (by rw [Tryz.infoMod]; rfl) ?_) | (refine Lex.quiet (v := ?_) (by rfl) (by rfl) ?_ ?_; rotate_left; focus (intro w' hS'; go_simp; try rfl))); try simp only [Act.put, List.setIfInBounds_toArray, List.set_cons_zero, List.set_cons_succ])
 refine Lex.loud (by rfl) (by rfl) ?_
 intro K' hK'
 go_simp
 refine (msame_ok _ (H.out.fr R6.out).mem (K.out.fr R6.out).mem).mono ?_
 rintro e w7 ⟨rfl, r7⟩
 rw [E6.out]
 have R7 := Lib.hid (R6.out.trans r7)
 have S7 := Lib.hid (SS4.out _ R7.out)
 clear r7
 refine hK' _ _ (S7.out) ?_
 clear hK'
 try simp only [Act.put, List.setIfInBounds_toArray, List.set_cons_zero, List.set_cons_succ]
 repeat ((first | refine Lex.skips (by rfl) ?_ | (refine Lex.into (by rfl) (by rfl) _ _ rfl _ _ rfl _ _ ((fun _ h => h.2.1)) Tryz.underlying25 rfl (by rw [Tryz.infoMod]; rfl) ?_) | (refine Lex.into (by rfl) (by rfl) _ _ rfl _ _ rfl _ _ ((fun _ h => h.2.2.2)) Tryz.underlying25 rfl (by rw [Tryz.infoMod]; rfl) ?_) | (refine Lex.quiet (v := ?_) (by rfl) (by rfl) ?_ ?_; rotate_left; focus (intro w' hS'; go_simp; try rfl))); try simp only [Act.put, List.setIfInBounds_toArray, List.set_cons_zero, List.set_cons_succ])
 refine Lex.loud (by rfl) (by rfl) ?_
 intro K' hK'
 go_simp
 refine (sout_ok _ (H.out.fr R7.out) (by have := HDS.out.1; omega)).mono ?_
 rintro e w8 ⟨x1, rfl, hx1, r8⟩
 have R8 := Lib.hid (R7.out.trans r8)
 have S8 := Lib.hid (SS4.out _ R8.out)
 have HX1 := Lib.hid (owns_reads hx1)
 clear hx1 r8
 refine hK' _ _ (S8.out) ?_
 clear hK'
 try simp only [Act.put, List.setIfInBounds_toArray, List.set_cons_zero, List.set_cons_succ]
 repeat ((first | refine Lex.skips (by rfl) ?_ | (refine Lex.quiet (v := ?_) (by rfl) (by rfl) ?_ ?_; rotate_left; focus (intro w' hS'; go_simp; try rfl))); try simp only [Act.put, List.setIfInBounds_toArray, List.set_cons_zero, List.set_cons_succ])
 refine Lex.loud (by rfl) (by rfl) ?_
 intro K' hK'
 go_simp
 refine (sout_ok _ (K.out.fr R8.out) (by have := HDS.out.2; omega)).mono ?_
 rintro e w9 ⟨x2, rfl, hx2, r9⟩
 have R9 := Lib.hid (R8.out.trans r9)
 have S9 := Lib.hid (SS4.out _ R9.out)
 have HX2 := Lib.hid (owns_reads hx2)
 have HX1' := Lib.hid (HX1.out.fr r9 (by simp))
 clear hx2 r9
 refine hK' _ _ (S9.out) ?_
 clear hK'
 try simp only [Act.put, List.setIfInBounds_toArray, List.set_cons_zero, List.set_cons_succ]
 repeat ((first | refine Lex.skips (by rfl) ?_ | (refine Lex.quiet (v := ?_) (by rfl) (by rfl) ?_ ?_; rotate_left; focus (intro w' hS'; go_simp; try rfl))); try simp only [Act.put, List.setIfInBounds_toArray, List.set_cons_zero, List.set_cons_succ])
 refine Lex.loud (by rfl) (by rfl) ?_
 intro K' hK'
 go_simp
 refine (sameo_ok _ x1 x2 s.ds t.ds s.e.1 s.e.2 t.e.1 t.e.2 HX1'.out HX2.out (by have := HDS.out.1; omega) (by have := HDS.out.2; omega)).mono ?_
 rintro e w10 ⟨rfl, r10⟩
 rw [E7.out]
 have R10 := Lib.hid (R9.out.trans r10)
 have S10 := Lib.hid (SS4.out _ R10.out)
 clear r10
 refine hK' _ _ (S10.out) ?_
 clear hK'
 try simp only [Act.put, List.setIfInBounds_toArray, List.set_cons_zero, List.set_cons_succ]
 repeat ((first | refine Lex.skips (by rfl) ?_ | (refine Lex.quiet (v := ?_) (by rfl) (by rfl) ?_ ?_; rotate_left; focus (intro w' hS'; go_simp; try rfl))); try simp only [Act.put, List.setIfInBounds_toArray, List.set_cons_zero, List.set_cons_succ])
 refine Lex.loud (by rfl) (by rfl) ?_
 intro K' hK'
 go_simp
 refine (sleft_ok _ (H.out.fr R10.out)).mono ?_
 rintro e w11 ⟨l1, rfl, hl1, r11⟩
 have R11 := Lib.hid (R10.out.trans r11)
 have S11 := Lib.hid (SS4.out _ R11.out)
 have HL1 := Lib.hid hl1
 clear hl1 r11
 refine hK' _ _ (S11.out) ?_
 clear hK'
 try simp only [Act.put, List.setIfInBounds_toArray, List.set_cons_zero, List.set_cons_succ]
 repeat ((first | refine Lex.skips (by rfl) ?_ | (refine Lex.quiet (v := ?_) (by rfl) (by rfl) ?_ ?_; rotate_left; focus (intro w' hS'; go_simp; try rfl))); try simp only [Act.put, List.setIfInBounds_toArray, List.set_cons_zero, List.set_cons_succ])
 refine Lex.loud (by rfl) (by rfl) ?_
 intro K' hK'
 go_simp
 refine (sleft_ok _ (K.out.fr R11.out)).mono ?_
 rintro e w12 ⟨l2, rfl, hl2, r12⟩
 have R12 := Lib.hid (R11.out.trans r12)
 have S12 := Lib.hid (SS4.out _ R12.out)
 have HL2 := Lib.hid hl2
 have HL1' := Lib.hid (HL1.out.fr r12 (by simp))
 clear hl2 r12
 refine hK' _ _ (S12.out) ?_
 clear hK'
 try simp only [Act.put, List.setIfInBounds_toArray, List.set_cons_zero, List.set_cons_succ]
 repeat ((first | refine Lex.skips (by rfl) ?_ | (refine Lex.quiet (v := ?_) (by rfl) (by rfl) ?_ ?_; rotate_left; focus (intro w' hS'; go_simp; try rfl))); try simp only [Act.put, List.setIfInBounds_toArray, List.set_cons_zero, List.set_cons_succ])
 refine Lex.loud (by rfl) (by rfl) ?_
 intro K' hK'
 go_simp
 refine (eqbytes_ok _ l1 l2 _ _ HL1'.out HL2.out (by have := H.out.ok.il; rw [List.length_drop]; omega)).mono ?_
 rintro e w13 ⟨rfl, r13⟩
 have R13 := Lib.hid (R12.out.trans r13)
 have S13 := Lib.hid (SS4.out _ R13.out)
 clear r13
 refine hK' _ _ (S13.out) ?_
 clear hK'
 try simp only [Act.put, List.setIfInBounds_toArray, List.set_cons_zero, List.set_cons_succ]
 repeat ((first | refine Lex.skips (by rfl) ?_ | (refine Lex.quiet (v := ?_) (by rfl) (by rfl) ?_ ?_; rotate_left; focus (intro w' hS'; go_simp; try rfl))); try simp only [Act.put, List.setIfInBounds_toArray, List.set_cons_zero, List.set_cons_succ])
 refine Lex.done ?_
 refine Lex.ends ?_
 go_wp2_with fail
 go_ret
 exact ⟨by rw [HQ.out]; rfl, R13.out⟩

end Go.Proofs.YtihnkijeefkefaaGreat

set_option linter.unusedSimpArgs false
set_option linter.unusedVariables false
set_option linter.unusedSectionVars false
set_option linter.unnecessarySimpa false
set_option maxRecDepth 100000
/- SpaceAgain. -/
namespace Go.Proofs.YtihnkijeefkefaaGreat
open Go.RowKit

attribute [local go_sem] Program.isFuncB Program.isSliceB

variable {w w' w'' w0 w1 : World} {O R X : Nat → Prop} {p q : Nat} {s s' t t' : Zp} {A B : (Nat → Prop) → (Nat → Prop) → World → Prop}

theorem sameS_refl (s : Zp) : sameS s s = true := by simp [sameS, sameO]
attribute [local irreducible] Zp.callS Zp.layS Zp.down Zp.argsS newS Zp.actS sameS
theorem u8s_of (zs : List Int) (h : ∀ z ∈ zs, (Lit.int .u8 z).wf = true) : u8s (zs.map Int.toNat) = zs.map (.int .u8) ∧ ∀ x ∈ zs.map Int.toNat, x < 256 := by
 have hr : ∀ z ∈ zs, 0 ≤ z ∧ z ≤ 255 := fun z hz => by
  have h1 : IntKind.u8.min ≤ z ∧ z ≤ IntKind.u8.max := by simpa [Lit.wf] using h z hz
  have h2 : IntKind.u8.min = 0 := by decide
  have h3 : IntKind.u8.max = 255 := by decide
  omega
 constructor
 ·unfold u8s
  rw [List.map_map]
  refine List.map_congr_left fun z hz => ?_
  have := hr z hz
  simp only [Function.comp]
  congr 1
  omega
 ·intro x hx
  obtain ⟨z, hz, rfl⟩ := List.mem_map.1 hx
  have := hr z hz
  omega
end Go.Proofs.YtihnkijeefkefaaGreat

set_option linter.unusedSimpArgs false
set_option linter.unusedVariables false
set_option linter.unusedSectionVars false
set_option linter.unnecessarySimpa false
set_option maxRecDepth 100000
/- The document's New. -/
namespace Go.Proofs.YtihnkijeefkefaaGreat
open Go.RowKit

attribute [local go_sem] Program.isFuncB Program.isSliceB

variable {w w' w'' w0 w1 : World} {O R X : Nat → Prop} {p : Nat} {s s' : Zp}

theorem rlay_nil {q g n c : Nat} {bs : List Nat} (w : World) (a : Nat) (va : Option Addr) (vc : Nat) (h : RMemAt w q g n c bs) (ha : a < 18446744073709551616) (hn : n ≤ 65536) (hin : inB n a 0 = true) :
  Calls Tryz.prog 79 #[.pointer (some ⟨q, 0, none⟩), .int .u64 a, .slice va 0 vc] w fun e w' => e = .returned (.int .i64 0) ∧ w = w' := by
 have HF := Lib.hid (rfits_ok w a 0 h ha (by omega) hn)
 rw [hin] at HF
 have hwa : IntKind.i64.wrap (a : Int) = a := by simp only [inB, decide_eq_true_eq] at hin; rw [IntKind.wrap_i64]; omega
 clear hin h
 go_enter Tryz.func79, Tryz.ntmps79
 go_wp2_with fail
 refine HF.out.mono ?_
 rintro e w' ⟨rfl, rfl⟩
 go_wp2_with fail
 go_loopw [7] (fun y wr => y = .int .i64 0 ∧ wr = w) (fun y _ => 0)
 case atStart => exact ⟨rfl, rfl⟩
 case round =>
  obtain ⟨rfl, rfl⟩ := hrel
  go_wp2_with fail
  go_ret
  exact ⟨rfl, rfl⟩
theorem rlay_any {q g n c B : Nat} {bs : List Nat} (w : World) (a : Nat) (v : Value) (l : List Nat) (h : RMemAt w q g n c bs) (ha : a < 18446744073709551616) (hk : l.length ≤ 65536) (hn : n ≤ 65536) (hin : inB n a l.length = true) (hlt : ∀ x ∈ l, x < 256) (hv : Reads w v 1 l.length (u8s l)) (hg : B ≤ g) (hvB : ∀ (j : Nat) (u : Value), (u8s l)[j]? = some u → ∀ i, v.ownBlock = some i → i < B) :
  Calls Tryz.prog 79 #[.pointer (some ⟨q, 0, none⟩), .int .u64 a, v] w fun e w' => e = .returned (.int .i64 0) ∧ RMemAt w' q g n c (layB bs a l) ∧ Fr (only [g]) w w' := by
 cases l with
 | nil =>
  obtain ⟨va, vc, rfl⟩ := hv.shape
  refine (rlay_nil w a va vc h ha hn hin).mono ?_
  rintro e w' ⟨rfl, rfl⟩
  exact ⟨rfl, by rw [layB_nil]; exact h, Fr.refl _ _⟩
 | cons x l =>
  exact rlay_ok w a _ v (x :: l) h ha hk hn hin rfl hlt hv (fun i hi e => by have := hvB 0 _ rfl i hi; omega)
theorem lt_of_cell {a : Addr} {v : Value} (h : w.cell? a = some v) : a.block < w.heap.size := by
 unfold World.cell? at h
 split at h
 ·rename_i hb; exact (Array.getElem?_eq_some_iff.1 hb).1
 ·cases h
theorem reads_old {v : Value} {n z : Nat} {cs : List Value} (h : Reads w v z n cs) : ∀ (j : Nat) (u : Value), cs[j]? = some u → ∀ i, v.ownBlock = some i → i < w.heap.size := by
 intro j u hj i hi
 rcases h with ⟨rfl, -, -⟩ | ⟨ad, cap, rfl, -, -, -, h5⟩
 ·cases hi
 ·have hc := h5 j u hj
  have hb : (ad.add j).block = ad.block := by unfold Addr.add; split <;> rfl
  have hi : ad.block = i := by simpa [Value.ownBlock] using hi
  have := lt_of_cell hc
  rw [hb, hi] at this
  exact this
structure RMade (w w' : World) (B p q g c t k : Nat) (m : Mx) (da : Option Addr) (dc : Nat) (fa : Option Addr) (inp : List Nat) (tv : Value) : Prop where
 mem : RMemAt w' q g k c (layB (List.replicate k 0) 16 m.d)
 tape : RefAt w' t t inp 0 [] tv (.slice none 0 0)
 ro : ∀ w2, Fr (fun i => B ≤ i) w' w2 → ModIn w2 m da dc fa
 hB : B ≤ w.heap.size
 bq : w.heap.size ≤ q
 bg : w.heap.size ≤ g
 bt : w.heap.size ≤ t
 tp : t < p
 gp : g < p
 tv : ∀ i, tv.ownBlock = some i → w.heap.size ≤ i ∧ i ≠ g
 fr : Fr no w w'
theorem RMade.step {B p q g c t k : Nat} {m : Mx} {da fa : Option Addr} {dc : Nat} {inp : List Nat} {tv : Value} (h : RMade w w1 B p q g c t k m da dc fa inp tv) (r : Fr (only [p]) w1 w') (hq : q ≠ p) : RMade w w' B p q g c t k m da dc fa inp tv := by
 have hp : w.heap.size ≤ p := by have := h.bt; have := h.tp; omega
 refine ⟨h.mem.frx r (by simpa using hq) (by have := h.gp; simp; omega), h.tape.frx r (by have := h.tp; simp; omega) (fun i hi => by have := h.tape.old i hi; have := h.tp; simp; omega) (fun i hi => by cases hi), fun w2 r2 => h.ro w2 ((r.mono (fun i hi _ => by simp at hi; subst hi; have := h.hB; omega)).trans r2), h.hB, h.bq, h.bg, h.bt, h.tp, h.gp, h.tv, h.fr.trans' r (fun i hi _ => by simp at hi; omega)⟩
theorem RMade.space {B p q g c t k : Nat} {m : Mx} {da fa : Option Addr} {dc fc : Nat} {inp : List Nat} {tv : Value} (h : RMade w w' B p q g c t k m da dc fa inp tv) (hm : s.m = m) (hb : s.b = layB (List.replicate k 0) 16 m.d) (hbl : s.b.length = k) (hi : s.inp = inp) (hp0 : s.pos = 0) (hd : s.ds = []) (hl : s.ls = []) (hok : s.Ok)
  (ho : w'.heap[p]? = some (.cells (rspCells s ⟨da, dc, fa, fc, q, g, c, t, t, tv, .slice none 0 0, .slice none 0 0⟩) 135 (0, 0))) :
  RSpAt w' (fun i => i = p ∨ i = g ∨ i = t) (fun i => i < B ∨ i = q ∨ tv.ownBlock = some i) p s ⟨da, dc, fa, fc, q, g, c, t, t, tv, .slice none 0 0, .slice none 0 0⟩ := by
 obtain ⟨cur, hg, -⟩ := h.mem.block
 have szp := (Array.getElem?_eq_some_iff.1 ho).1
 have szg := (Array.getElem?_eq_some_iff.1 hg).1
 have szt := (Array.getElem?_eq_some_iff.1 h.tape.obj).1
 have szq := (Array.getElem?_eq_some_iff.1 h.mem.obj).1
 have h1 := h.hB
 have h2 := h.bg
 have h3 := h.bt
 have h4 := h.tp
 have h5 := h.fr.size
 refine ⟨ho, ?_, ?_, by rw [hl]; exact World.ownsRow_nil _ _ _ _, ?_, hok, by show t ≤ _; omega, .inl rfl, .inr (.inl rfl), .inr (.inr rfl), fun i hi => (by cases hi), fun i hi => (by cases hi), .inr (.inl rfl), fun i hi => .inr (.inr hi), fun i hi hr => ?_, fun i hi => ?_⟩
 ·show RMemAt w' q g s.b.length c s.b
  rw [hbl, hb]
  exact h.mem
 ·show RefAt w' t t s.inp s.pos s.ds tv _
  rw [hi, hp0, hd]
  exact h.tape
 ·intro w2 r2
  rw [hm]
  exact h.ro w2 (r2.mono (fun i hi _ => by
   by_cases hlt : B ≤ i
   ·exact hlt
   ·exact absurd (.inl (by omega)) hi))
 ·rcases hr with hr | hr | hr
  ·rcases hi with e | e | e <;> omega
  ·subst hr
   rcases hi with e | e | e
   ·exact block_ne h.mem.obj ho (by decide) e
   ·exact h.mem.ne e
   ·exact block_ne h.mem.obj h.tape.obj (by decide) e
  ·have o1 := h.tape.old i hr
   have o2 := (h.tv i hr).2
   rcases hi with e | e | e <;> omega
 ·rcases hi with (e | e | e) | (e | e | e)
  ·omega
  ·omega
  ·omega
  ·omega
  ·omega
  ·have := h.tape.old i e; omega
section
variable {m : Mx} {inp : List Nat} {fuel n : Int} {da fa ia : Option Addr} {dc fc ic : Nat}
set_option maxHeartbeats 2000000 in
theorem rsnew_bad (w : World) (hm : ModRd w m da dc fa fc) (hs : m.Small) (hb : newBad m n fuel) : Calls Tryz.prog 35 #[.agg #[.slice da m.d.length dc, .slice fa m.f.length fc], .int .i64 n, .slice ia inp.length ic, .int .i64 fuel] w fun e w' => e = .returned (.tuple #[.pointer none, .int .i64 2]) ∧ Fr no w w' := by
 by_cases h1 : modCk m ≠ 0
 ·clear hb
  have r1 := (Fr.refl no w).alloc (.cells #[.slice da m.d.length dc, .slice fa m.f.length fc] 25)
  have hb1 := heap_new w (.cells #[.slice da m.d.length dc, .slice fa m.f.length fc] 25)
  have HC := Lib.hid (refcheck_mod _ m da dc fa fc (hm.modIn.fr r1) hs)
  have lm := load_mod _ _ _ _ hb1
  have HB := Lib.hid hb1
  have R1 := Lib.hid r1
  have e1 : (modCk m != 0) = true := bne_iff_ne.2 h1
  generalize modCk m = ck at *
  clear h1 hs
  clear hb1 r1 hm
  go_enter Tryz.func35, Tryz.ntmps35
  go_wp2_with fail
  refine HC.out.mono ?_
  rintro e w1 ⟨rfl, r2⟩
  have R2 := Lib.hid (R1.out.trans r2)
  clear lm
  clear r2
  go_wp2_with fail
  go_ret2
  exact ⟨rfl, R2.out⟩
 have h1 : modCk m = 0 := Decidable.not_not.1 h1
 by_cases h2 : fuel < 0
 ·clear hb
  have r1 := (Fr.refl no w).alloc (.cells #[.slice da m.d.length dc, .slice fa m.f.length fc] 25)
  have hb1 := heap_new w (.cells #[.slice da m.d.length dc, .slice fa m.f.length fc] 25)
  have HC := Lib.hid (refcheck_mod _ m da dc fa fc (hm.modIn.fr r1) hs)
  have lm := load_mod _ _ _ _ hb1
  have HB := Lib.hid hb1
  have R1 := Lib.hid r1
  rw [h1] at HC
  clear hs h1
  clear hb1 r1 hm
  go_enter Tryz.func35, Tryz.ntmps35
  go_wp2_with fail
  refine HC.out.mono ?_
  rintro e w1 ⟨rfl, r2⟩
  have R2 := Lib.hid (R1.out.trans r2)
  clear lm
  clear r2
  go_wp2_with fail
  go_ret2
  exact ⟨rfl, R2.out⟩
 by_cases h3 : 10000000 < fuel
 ·clear hb
  have r1 := (Fr.refl no w).alloc (.cells #[.slice da m.d.length dc, .slice fa m.f.length fc] 25)
  have hb1 := heap_new w (.cells #[.slice da m.d.length dc, .slice fa m.f.length fc] 25)
  have HC := Lib.hid (refcheck_mod _ m da dc fa fc (hm.modIn.fr r1) hs)
  have lm := load_mod _ _ _ _ hb1
  have HB := Lib.hid hb1
  have R1 := Lib.hid r1
  have e3 : fuel > 10000000 := h3
  rw [h1] at HC
  clear hs h1 h3
  clear hb1 r1 hm
  go_enter Tryz.func35, Tryz.ntmps35
  go_wp2_with fail
  refine HC.out.mono ?_
  rintro e w1 ⟨rfl, r2⟩
  have R2 := Lib.hid (R1.out.trans r2)
  clear lm
  clear r2
  go_wp2_with fail
  go_ret2
  exact ⟨rfl, R2.out⟩
 by_cases h4 : n < 16
 ·clear hb
  have r1 := (Fr.refl no w).alloc (.cells #[.slice da m.d.length dc, .slice fa m.f.length fc] 25)
  have hb1 := heap_new w (.cells #[.slice da m.d.length dc, .slice fa m.f.length fc] 25)
  have HC := Lib.hid (refcheck_mod _ m da dc fa fc (hm.modIn.fr r1) hs)
  have lm := load_mod _ _ _ _ hb1
  have HB := Lib.hid hb1
  have R1 := Lib.hid r1
  have e3 : ¬ fuel > 10000000 := h3
  rw [h1] at HC
  clear hs h1 h3
  clear hb1 r1 hm
  go_enter Tryz.func35, Tryz.ntmps35
  go_wp2_with fail
  refine HC.out.mono ?_
  rintro e w1 ⟨rfl, r2⟩
  have R2 := Lib.hid (R1.out.trans r2)
  clear lm
  clear r2
  go_wp2_with fail
  go_ret2
  exact ⟨rfl, R2.out⟩
 by_cases h5 : 65536 < n
 ·clear hb
  have r1 := (Fr.refl no w).alloc (.cells #[.slice da m.d.length dc, .slice fa m.f.length fc] 25)
  have hb1 := heap_new w (.cells #[.slice da m.d.length dc, .slice fa m.f.length fc] 25)
  have HC := Lib.hid (refcheck_mod _ m da dc fa fc (hm.modIn.fr r1) hs)
  have lm := load_mod _ _ _ _ hb1
  have HB := Lib.hid hb1
  have R1 := Lib.hid r1
  have e3 : ¬ fuel > 10000000 := h3
  have e5 : n > 65536 := h5
  rw [h1] at HC
  clear hs h1 h3 h5
  clear hb1 r1 hm
  go_enter Tryz.func35, Tryz.ntmps35
  go_wp2_with fail
  refine HC.out.mono ?_
  rintro e w1 ⟨rfl, r2⟩
  have R2 := Lib.hid (R1.out.trans r2)
  clear lm
  clear r2
  go_wp2_with fail
  go_ret2
  exact ⟨rfl, R2.out⟩
 obtain ⟨k, rfl⟩ : ∃ k : Nat, n = k := ⟨n.toNat, by omega⟩
 have h6 : k % 16 ≠ 0 := by
  rcases hb with h | h | h | h | h | h
  ·exact absurd h1 h
  ·exact absurd h h2
  ·exact absurd h h3
  ·exact absurd h h4
  ·exact absurd h h5
  ·omega
 clear hb
 have r1 := (Fr.refl no w).alloc (.cells #[.slice da m.d.length dc, .slice fa m.f.length fc] 25)
 have hb1 := heap_new w (.cells #[.slice da m.d.length dc, .slice fa m.f.length fc] 25)
 have HC := Lib.hid (refcheck_mod _ m da dc fa fc (hm.modIn.fr r1) hs)
 have lm := load_mod _ _ _ _ hb1
 have HB := Lib.hid hb1
 have R1 := Lib.hid r1
 have hrm : (k : Int) % 16 = ((k % 16 : Nat) : Int) := by omega
 have e3 : ¬ fuel > 10000000 := h3
 have e5 : ¬ (k : Int) > 65536 := h5
 have e6 : (((k % 16 : Nat) : Int) != 0) = true := bne_iff_ne.2 (by omega)
 rw [h1] at HC
 clear hs h1 h3 h5 h6
 generalize k % 16 = r at *
 clear hb1 r1 hm
 go_enter Tryz.func35, Tryz.ntmps35
 go_wp2_with fail
 refine HC.out.mono ?_
 rintro e w1 ⟨rfl, r2⟩
 have R2 := Lib.hid (R1.out.trans r2)
 clear lm
 clear r2
 go_wp2_with fail
 go_ret2
 exact ⟨rfl, R2.out⟩
set_option maxHeartbeats 4000000 in
theorem rsnew_full (w : World) (hm : ModRd w m da dc fa fc) (hs : m.Small) (hb : ¬ newBad m n fuel) (hfl : n < flr m) : Calls Tryz.prog 35 #[.agg #[.slice da m.d.length dc, .slice fa m.f.length fc], .int .i64 n, .slice ia inp.length ic, .int .i64 fuel] w fun e w' => e = .returned (.tuple #[.pointer none, .int .i64 8]) ∧ Fr no w w' := by
 have r1 := (Fr.refl no w).alloc (.cells #[.slice da m.d.length dc, .slice fa m.f.length fc] 25)
 have hb1 := heap_new w (.cells #[.slice da m.d.length dc, .slice fa m.f.length fc] 25)
 have HC := Lib.hid (refcheck_mod _ m da dc fa fc (hm.modIn.fr r1) hs)
 have lm := load_mod _ _ _ _ hb1
 have HB := Lib.hid hb1
 have R1 := Lib.hid r1
 have HRD := Lib.hid hm
 have HSM := Lib.hid hs
 have HNB : Hid (modCk m = 0 ∧ ¬ fuel < 0 ∧ ¬ 10000000 < fuel ∧ ¬ n < 16 ∧ ¬ 65536 < n ∧ n % 16 = 0) := Lib.hid (by
  unfold newBad at hb
  refine ⟨Decidable.not_not.1 (fun h => hb (.inl h)), fun h => hb (.inr (.inl h)), fun h => hb (.inr (.inr (.inl h))), fun h => hb (.inr (.inr (.inr (.inl h)))), fun h => hb (.inr (.inr (.inr (.inr (.inl h))))), Decidable.not_not.1 (fun h => hb (.inr (.inr (.inr (.inr (.inr h))))))⟩)
 obtain ⟨h1, h2, h3, h4, h5, h6⟩ := HNB.out
 obtain ⟨k, rfl⟩ : ∃ k : Nat, n = k := ⟨n.toNat, by omega⟩
 have hrm : (k : Int) % 16 = 0 := h6
 have e3 : ¬ fuel > 10000000 := h3
 have e5 : ¬ (k : Int) > 65536 := h5
 have hk1 : 16 ≤ k ∧ k ≤ 65536 := by omega
 have HKB := Lib.hid hk1
 have HM1 := Lib.hid (ck_len h1)
 have HFL : Hid (k < flr m) := Lib.hid (by omega)
 have hfg : (flr m : Int) > k := by omega
 rw [h1] at HC
 clear hb1 r1 hm hs hb h1 h3 h5 h6 hk1 hfl
 go_enter Tryz.func35, Tryz.ntmps35
 go_wp2_with fail
 refine HC.out.mono ?_
 rintro e w1 ⟨rfl, r2⟩
 have R2 := Lib.hid (R1.out.trans r2)
 clear lm
 have hb2 := r2.heap HB.out (by simp)
 have m0 := cell_of_heap (o := 0) hb2 rfl
 have m1 := cell_of_heap (o := 1) hb2 rfl
 have HB2 := Lib.hid hb2
 clear r2 hb2
 go_wp2_with fail
 refine (reffloor_ok _ m.d.length (by have := HM1.out.1; omega)).mono ?_
 rintro e w' ⟨rfl, rfl⟩
 rw [show r16 (16 + m.d.length) = flr m from (flr_r16 m).symm]
 have hwk : IntKind.u64.wrap (k : Int) = k := by have := HKB.out; rw [IntKind.wrap_u64]; omega
 clear hrm e3 e5 h2 h4
 go_wp2_with fail
 go_ret2
 exact ⟨rfl, R2.out⟩
set_option maxHeartbeats 4000000 in
theorem rsnew_ok (w : World) (hm : ModRd w m da dc fa fc) (hs : m.Small) (hin : Reads w (.slice ia inp.length ic) 1 inp.length (u8s inp)) (hil : inp.length ≤ 100000) (hib : ∀ x ∈ inp, x < 256) {B : Nat} (hBB : B ≤ w.heap.size) (hmB : ∀ w2, Fr (fun i => B ≤ i) w w2 → ModIn w2 m da dc fa) (hb : ¬ newBad m n fuel) (hfl : flr m ≤ n) : Calls Tryz.prog 35 #[.agg #[.slice da m.d.length dc, .slice fa m.f.length fc], .int .i64 n, .slice ia inp.length ic, .int .i64 fuel] w fun e w' => ∃ p O R, e = .returned (.tuple #[.pointer (some ⟨p, 0, none⟩), .int .i64 0]) ∧ RSpT p (newS m n.toNat inp fuel) O R w' ∧ (∀ k, O k → w.heap.size ≤ k) ∧ (∀ k, R k → k < B ∨ w.heap.size ≤ k) ∧ Fr no w w' := by
 have r1 := (Fr.refl no w).alloc (.cells #[.slice da m.d.length dc, .slice fa m.f.length fc] 25)
 have hb1 := heap_new w (.cells #[.slice da m.d.length dc, .slice fa m.f.length fc] 25)
 have HC := Lib.hid (refcheck_mod _ m da dc fa fc (hm.modIn.fr r1) hs)
 have lm := load_mod _ _ _ _ hb1
 have HB := Lib.hid hb1
 have R1 := Lib.hid r1
 have HRD := Lib.hid hm
 have HSM := Lib.hid hs
 have HNB : Hid (modCk m = 0 ∧ ¬ fuel < 0 ∧ ¬ 10000000 < fuel ∧ ¬ n < 16 ∧ ¬ 65536 < n ∧ n % 16 = 0) := Lib.hid (by
  unfold newBad at hb
  refine ⟨Decidable.not_not.1 (fun h => hb (.inl h)), fun h => hb (.inr (.inl h)), fun h => hb (.inr (.inr (.inl h))), fun h => hb (.inr (.inr (.inr (.inl h)))), fun h => hb (.inr (.inr (.inr (.inr (.inl h))))), Decidable.not_not.1 (fun h => hb (.inr (.inr (.inr (.inr (.inr h))))))⟩)
 obtain ⟨h1, h2, h3, h4, h5, h6⟩ := HNB.out
 obtain ⟨k, rfl⟩ : ∃ k : Nat, n = k := ⟨n.toNat, by omega⟩
 have hrm : (k : Int) % 16 = 0 := h6
 have e3 : ¬ fuel > 10000000 := h3
 have e5 : ¬ (k : Int) > 65536 := h5
 have hk1 : 16 ≤ k ∧ k ≤ 65536 := by omega
 have HKB := Lib.hid hk1
 have HM1 := Lib.hid (ck_len h1)
 have HFL : Hid (flr m ≤ k) := Lib.hid (by omega)
 have hfg : ¬ (flr m : Int) > k := by omega
 have HIB := Lib.hid hib
 have HIN := Lib.hid hin
 have HIL := Lib.hid hil
 have HBB := Lib.hid hBB
 have HMB := Lib.hid hmB
 rw [Int.toNat_natCast]
 rw [h1] at HC
 clear hb1 r1 hm hs hb h1 h3 h5 h6 hk1 hfl hib hin hil hBB hmB
 go_enter Tryz.func35, Tryz.ntmps35
 go_wp2_with fail
 refine HC.out.mono ?_
 rintro e w1 ⟨rfl, r2⟩
 have R2 := Lib.hid (R1.out.trans r2)
 clear lm
 have hb2 := r2.heap HB.out (by simp)
 have m0 := cell_of_heap (o := 0) hb2 rfl
 have m1 := cell_of_heap (o := 1) hb2 rfl
 have HB2 := Lib.hid hb2
 clear r2 hb2
 go_wp2_with fail
 refine (reffloor_ok _ m.d.length (by have := HM1.out.1; omega)).mono ?_
 rintro e w' ⟨rfl, rfl⟩
 rw [show r16 (16 + m.d.length) = flr m from (flr_r16 m).symm]
 have hwk : IntKind.u64.wrap (k : Int) = k := by have := HKB.out; rw [IntKind.wrap_u64]; omega
 clear hrm e3 e5 h2 h4
 go_wp2_with fail
 refine (rnew_ok w1 k HKB.out.1 HKB.out.2).mono ?_
 rintro e w3 ⟨q, g, c, rfl, hq, hq1, hg1, r3⟩
 have HMQ := Lib.hid hq
 have HG : Hid (w1.heap.size ≤ q ∧ w1.heap.size ≤ g) := Lib.hid ⟨hq1, hg1⟩
 have R3 := Lib.hid (R2.out.trans r3)
 have HB3 := Lib.hid (r3.heap HB2.out (by simp))
 have HRD1 := Lib.hid (HRD.out.fr R2.out)
 have HRD3 := Lib.hid (HRD.out.fr R3.out)
 have HLY := Lib.hid (rlay_any (B := w1.heap.size) w3 16 _ m.d hq (by decide) (by have := HM1.out.1; omega) HKB.out.2 (by have := HFL.out; unfold flr at this; simp only [inB, decide_eq_true_eq]; omega) HSM.out.lt HRD3.out.data hg1 (reads_old HRD1.out.data))
 clear hq hq1 hg1 r3 m0 m1
 have m0 := cell_of_heap (o := 0) HB3.out rfl
 go_wp2_with fail
 refine HLY.out.mono ?_
 rintro e w4 ⟨rfl, hq4, r4⟩
 have HMQ4 := Lib.hid hq4
 have R4 := Lib.hid (R3.out.trans' r4 (fun i hi hlt => by simp at hi; have := HG.out.2; have := R2.out.size; omega))
 have HB4 := Lib.hid (r4.heap HB3.out (fun e => by simp at e; have h1 := (Array.getElem?_eq_some_iff.1 HB2.out).1; have h2 := HG.out.2; omega))
 clear hq4 r4 HLY m0
 go_upto_region 8 with (fail)
 have AT4 : Hid (∀ w', w'.heap[w.heap.size]? = some (.cells #[.slice da m.d.length dc, .slice fa m.f.length fc] 25 (0, 0)) → At w' w.heap.size 0 [.slice da m.d.length dc, .slice fa m.f.length fc]) := Lib.hid (fun w' h => At.of_heap h)
 have HB5 : Hid (w4.drew.heap[w.heap.size]? = some (.cells #[.slice da m.d.length dc, .slice fa m.f.length fc] 25 (0, 0))) := Lib.hid HB4.out
 have A5 := Lib.hid (AT4.out _ HB5.out)
 have R5 := Lib.hid (R4.out.trans (Fr.refl no w4).drew)
 refine Lex.region [2, 4, 6, 11] [13] (by kernel_rfl) (by kernel_rfl) ?_
 refine Lex.opens (fun w' => At w' w.heap.size 0 [.slice da m.d.length dc, .slice fa m.f.length fc]) (A5.out) ?_
 repeat ((first | refine Lex.skips (by rfl) ?_ | (refine Lex.into (by rfl) (by rfl) _ _ rfl _ _ rfl _ _ ((fun _ h => h)) Tryz.underlying25 rfl (by rw [Tryz.infoMod]; rfl) ?_) | (refine Lex.quiet (v := ?_) (by rfl) (by rfl) ?_ ?_; rotate_left; focus (intro w' hS'; go_simp; try rfl))); try simp only [Act.put, List.setIfInBounds_toArray, List.set_cons_zero, List.set_cons_succ])
 refine Lex.loud (by rfl) (by rfl) ?_
 intro K' hK'
 go_simp
 have q6 : Fr no w4.drew (w4.alloc (.cells #[] 5)).drew := (Fr.refl no w4.drew).alloc (.cells #[] 5)
 have HB6 := Lib.hid (q6.heap HB5.out (by simp))
 have A6 := Lib.hid (AT4.out _ HB6.out)
 have R6 := Lib.hid (R5.out.trans q6)
 have OW6 : Hid ((w4.alloc (.cells #[] 5)).drew.ownsRow w4.drew.heap.size 5 1 (.slice (some ⟨w4.drew.heap.size, 0, none⟩) 0 0) 0 []) := Lib.hid (owns_new w4.drew 5 1)
 have HI6 := Lib.hid (HIN.out.fr R6.out (by simp))
 have SZ6 : Hid (((w4.alloc (.cells #[] 5)).drew).heap.size = w4.drew.heap.size + 1) := Lib.hid (by simp)
 clear q6
 refine hK' _ _ (A6.out) ?_
 clear hK'
 try simp only [Act.put, List.setIfInBounds_toArray, List.set_cons_zero, List.set_cons_succ]
 repeat ((first | refine Lex.skips (by rfl) ?_ | (refine Lex.into (by rfl) (by rfl) _ _ rfl _ _ rfl _ _ ((fun _ h => h)) Tryz.underlying25 rfl (by rw [Tryz.infoMod]; rfl) ?_) | (refine Lex.quiet (v := ?_) (by rfl) (by rfl) ?_ ?_; rotate_left; focus (intro w' hS'; go_simp; try rfl))); try simp only [Act.put, List.setIfInBounds_toArray, List.set_cons_zero, List.set_cons_succ])
 refine Lex.loud (by rfl) (by rfl) ?_
 intro K' hK'
 refine wp_append_at (.tmp 64) (.tmp 65) 22 rfl w4.drew.heap.size 5 (.int .u8 0) 1 1 Tryz.underlying22 Tryz.infoU8 rfl (by decide) _ 0 _ rfl OW6.out inp.length _ HI6.out (u8s_one _) (by have := HIL.out; unfold maxLen; omega) (by have := HIL.out; omega) (by have := SZ6.out; omega) ?_
 intro ga gc w7 ho hg hb
 have g7 := (Fr.refl (fun k => (Value.slice (some ⟨w4.drew.heap.size, 0, none⟩) 0 0).ownBlock = some k) _).grown hg (fun k hk => .inl hk)
 have R47 : Hid (Fr no w4 w7) := Lib.hid ((Fr.refl no w4).drew.trans (((Fr.refl no w4.drew).alloc (.cells #[] 5)).trans' g7 (fun k hk _ => by have hd : w4.drew.heap.size = w4.heap.size := rfl; simp [Value.ownBlock] at hk; omega)))
 have R7 := Lib.hid (R4.out.trans R47.out)
 have HIO : Hid (w7.ownsRow w4.drew.heap.size 5 1 (.slice ga inp.length gc) inp.length (u8s inp)) := Lib.hid (by simpa using ho)
 have HB7 := Lib.hid (g7.heap HB6.out (fun e => by simp [Value.ownBlock] at e; have h1 := (Array.getElem?_eq_some_iff.1 HB5.out).1; have h2 : w4.drew.heap.size = w4.heap.size := rfl; omega))
 have A7 := Lib.hid (AT4.out _ HB7.out)
 rw [Nat.zero_add] at *
 clear ho hg hb g7
 refine hK' _ _ (A7.out) ?_
 clear hK'
 try simp only [Act.put, List.setIfInBounds_toArray, List.set_cons_zero, List.set_cons_succ]
 repeat ((first | refine Lex.skips (by rfl) ?_ | (refine Lex.into (by rfl) (by rfl) _ _ rfl _ _ rfl _ _ ((fun _ h => h)) Tryz.underlying25 rfl (by rw [Tryz.infoMod]; rfl) ?_) | (refine Lex.quiet (v := ?_) (by rfl) (by rfl) ?_ ?_; rotate_left; focus (intro w' hS'; go_simp; try rfl))); try simp only [Act.put, List.setIfInBounds_toArray, List.set_cons_zero, List.set_cons_succ])
 refine Lex.loud (by rfl) (by rfl) ?_
 intro K' hK'
 go_simp
 have r8 := (Fr.refl no w7).alloc (.cells #[.slice ga inp.length gc, .int .i64 0, .slice none 0 0] 132)
 have HN8 := Lib.hid (heap_new w7 (.cells #[.slice ga inp.length gc, .int .i64 0, .slice none 0 0] 132))
 have HB8 := Lib.hid (r8.heap HB7.out (by simp))
 have A8 := Lib.hid (AT4.out _ HB8.out)
 have R78 := Lib.hid r8
 clear r8
 refine hK' _ _ (A8.out) ?_
 clear hK'
 try simp only [Act.put, List.setIfInBounds_toArray, List.set_cons_zero, List.set_cons_succ]
 repeat ((first | refine Lex.skips (by rfl) ?_ | (refine Lex.into (by rfl) (by rfl) _ _ rfl _ _ rfl _ _ ((fun _ h => h)) Tryz.underlying25 rfl (by rw [Tryz.infoMod]; rfl) ?_) | (refine Lex.quiet (v := ?_) (by rfl) (by rfl) ?_ ?_; rotate_left; focus (intro w' hS'; go_simp; try rfl))); try simp only [Act.put, List.setIfInBounds_toArray, List.set_cons_zero, List.set_cons_succ])
 refine Lex.loud (by rfl) (by rfl) ?_
 intro K' hK'
 go_simp
 have r9 := (Fr.refl no (w7.alloc (.cells #[.slice ga inp.length gc, .int .i64 0, .slice none 0 0] 132))).alloc (.cells #[.slice da m.d.length dc, .slice fa m.f.length fc, .pointer (some ⟨q, 0, none⟩), .pointer (some ⟨w7.heap.size, 0, none⟩), .int .i64 fuel, .int .i64 0, .int .u64 k, .int .i64 0, .slice none 0 0, .int .i64 0, .int .i64 0] 135)
 have hn9 := heap_new (w7.alloc (.cells #[.slice ga inp.length gc, .int .i64 0, .slice none 0 0] 132)) (.cells #[.slice da m.d.length dc, .slice fa m.f.length fc, .pointer (some ⟨q, 0, none⟩), .pointer (some ⟨w7.heap.size, 0, none⟩), .int .i64 fuel, .int .i64 0, .int .u64 k, .int .i64 0, .slice none 0 0, .int .i64 0, .int .i64 0] 135)
 rw [World.size_alloc] at hn9
 have HN9 := Lib.hid hn9
 have HB9 := Lib.hid (r9.heap HB8.out (by simp))
 have A9 := Lib.hid (AT4.out _ HB9.out)
 have HT9 := Lib.hid (r9.heap HN8.out (by simp))
 have R79 := Lib.hid (R78.out.trans r9)
 clear r9 hn9
 refine hK' _ _ (A9.out) ?_
 clear hK'
 try simp only [Act.put, List.setIfInBounds_toArray, List.set_cons_zero, List.set_cons_succ]
 repeat ((first | refine Lex.skips (by rfl) ?_ | (refine Lex.quiet (v := ?_) (by rfl) (by rfl) ?_ ?_; rotate_left; focus (intro w' hS'; go_simp; try rfl))); try simp only [Act.put, List.setIfInBounds_toArray, List.set_cons_zero, List.set_cons_succ])
 refine Lex.done ?_
 refine Lex.ends ?_
 clear A5 A6 A7 A8 A9
 generalize (w7.alloc (.cells #[.slice ga inp.length gc, .int .i64 0, .slice none 0 0] 132)).alloc (.cells #[.slice da m.d.length dc, .slice fa m.f.length fc, .pointer (some ⟨q, 0, none⟩), .pointer (some ⟨w7.heap.size, 0, none⟩), .int .i64 fuel, .int .i64 0, .int .u64 k, .int .i64 0, .slice none 0 0, .int .i64 0, .int .i64 0] 135) = w9 at *
 obtain ⟨p, hp⟩ : ∃ p, p = w7.heap.size + 1 := ⟨_, rfl⟩
 rw [← hp]
 obtain ⟨t, ht⟩ : ∃ t, t = w7.heap.size := ⟨_, rfl⟩
 rw [← ht] at HN8 HN9 HT9 hp ⊢
 have R9 := Lib.hid (R7.out.trans R79.out)
 have hg4 : g < w4.heap.size := by
  obtain ⟨cur, hg, -⟩ := HMQ4.out.block
  exact (Array.getElem?_eq_some_iff.1 hg).1
 have HRM : Hid (RMade w w9 B p q g c t k m da dc fa inp (.slice ga inp.length gc)) := Lib.hid ⟨HMQ4.out.fr (R47.out.trans R79.out), ⟨HT9.out, (owns_reads HIO.out).fr R79.out (by simp), HIB.out, fun i hi => by have := (HIO.out.lt i hi).2; omega, World.ownsRow_nil _ _ _ _, Nat.zero_le _, Nat.le_refl _⟩, fun w2 r2 => HMB.out w2 ((R9.out.to (T := fun i => B ≤ i)).trans r2), HBB.out, by have := HG.out.1; have := R2.out.size; omega, by have := HG.out.2; have := R2.out.size; omega, by have := R7.out.size; omega, by omega, by have := R47.out.size; omega, fun i hi => by
  have h1 := (HIO.out.lt i hi).1
  have h2 : w4.drew.heap.size = w4.heap.size := rfl
  have h3 := R4.out.size
  omega, R9.out⟩
 have HPQ : Hid (q ≠ p) := Lib.hid (block_ne HRM.out.mem.obj (by rw [hp]; exact HN9.out) (by decide))
 rw [← hp] at HN9
 have HW : Hid (w.heap.size < g ∧ w.heap.size < p ∧ w.heap.size < t) := Lib.hid (by have h1 := (Array.getElem?_eq_some_iff.1 HB2.out).1; have := HG.out.2; have := R47.out.size; omega)
 clear hg4
 clear hp ht
 have FN : Hid (∀ w', Fr no w w' → ∃ gb go, fa = some ⟨gb, go, none⟩ ∧ w'.cell? ⟨gb, go, none⟩ = some (.int .i64 (fnOf m 0).p) ∧ w'.cell? ⟨gb, go + 1, none⟩ = some (.int .i64 (fnOf m 0).r) ∧ w'.cell? ⟨gb, go + 2, none⟩ = some (.int .i64 (fnOf m 0).a)) := Lib.hid (fun w' r => by
  obtain ⟨b, o, ca, cc, e1, e2⟩ := (HRD.out.fr r).modIn.fns 0 HM1.out.2.1
  have h4 := e2.four
  rw [← fnOf_get HM1.out.2.1, Nat.zero_mul, Nat.add_zero] at h4
  exact ⟨b, o, e1, h4.1, h4.2.1, h4.2.2.1⟩)
 obtain ⟨gb, go, hfa, cp, cr, ca⟩ := FN.out _ (R9.out.trans (Fr.refl no w9).drew)
 have ck := fnOf_ck HNB.out.1 HM1.out.2.1
 obtain ⟨rn, hrn⟩ : ∃ rn : Nat, (fnOf m 0).r = rn := ⟨(fnOf m 0).r.toNat, by omega⟩
 obtain ⟨an, han⟩ : ∃ an : Nat, (fnOf m 0).a = an := ⟨(fnOf m 0).a.toNat, by omega⟩
 obtain ⟨pn, hpn⟩ : ∃ pn : Nat, (fnOf m 0).p = pn := ⟨(fnOf m 0).p.toNat, by omega⟩
 have hrn64 : rn ≤ 64 := by omega
 have han96 : an ≤ 4096 := by omega
 have hpn8 : pn ≤ 8 := by omega
 have HFS : Hid (fsz (fnOf m 0) = r16 (8 * rn + an)) := Lib.hid (by rw [fsz_r16 (by omega) (by omega), hrn, han]; rfl)
 have HPN : Hid ((fnOf m 0).p.toNat = pn) := Lib.hid (by rw [hpn]; rfl)
 rw [hrn] at cr
 rw [han] at ca
 rw [hpn] at cp
 have FC : Hid (∀ w', Fr no w w' → w'.cell? ⟨gb, go, none⟩ = some (.int .i64 pn)) := Lib.hid (fun w' r => by
  obtain ⟨b', o', e1, e2, -⟩ := FN.out w' r
  rw [hfa] at e1
  cases e1
  rw [e2, hpn])
 have HFA := Lib.hid hfa
 have HARG : Hid (NewArg m k inp fuel) := Lib.hid ⟨HNB.out.1, HSM.out, HKB.out.1, HKB.out.2, by have := HNB.out.2.2.2.2.2; omega, HFL.out, HIL.out, HIB.out, by have := HNB.out.2.1; omega, by have := HNB.out.2.2.1; omega⟩
 have HN16 : Hid (k % 16 = 0) := Lib.hid HARG.out.n16
 have hfll := HFL.out
 have hk65 := HKB.out.2
 have hf16 := flr_16 m
 clear hrn han hpn ck cp hfa
 go_upto_region 9 with (fail)
 have S9 : Hid ((fun w' : World => w'.cell? ⟨p, 6, none⟩ = some (.int .u64 k) ∧ w'.cell? ⟨w.heap.size, 1, none⟩ = some (.slice (some ⟨gb, go, none⟩) m.f.length fc) ∧ w'.cell? ⟨gb, go + 1, none⟩ = some (.int .i64 rn) ∧ w'.cell? ⟨gb, go + 2, none⟩ = some (.int .i64 an)) w9.drew) := Lib.hid ⟨cell_of_heap (w := w9.drew) HN9.out rfl, by rw [← HFA.out]; exact cell_of_heap (w := w9.drew) HB9.out rfl, cr, ca⟩
 have hfl0 : 0 < m.f.length := HM1.out.2.1
 have HN10 : Hid (w9.drew.heap[p]? = some (.cells #[.slice da m.d.length dc, .slice fa m.f.length fc, .pointer (some ⟨q, 0, none⟩), .pointer (some ⟨t, 0, none⟩), .int .i64 fuel, .int .i64 0, .int .u64 k, .int .i64 0, .slice none 0 0, .int .i64 0, .int .i64 0] 135 (0, 0))) := Lib.hid HN9.out
 have HB10 : Hid (w9.drew.heap[w.heap.size]? = some (.cells #[.slice da m.d.length dc, .slice fa m.f.length fc] 25 (0, 0))) := Lib.hid HB9.out
 have HRM10 := Lib.hid (HRM.out.step (Fr.refl (only [p]) w9).drew HPQ.out)
 clear cr ca
 refine Lex.region [15] [20, 1] (by kernel_rfl) (by kernel_rfl) ?_
 refine Lex.opens (fun w' => w'.cell? ⟨p, 6, none⟩ = some (.int .u64 k) ∧ w'.cell? ⟨w.heap.size, 1, none⟩ = some (.slice (some ⟨gb, go, none⟩) m.f.length fc) ∧ w'.cell? ⟨gb, go + 1, none⟩ = some (.int .i64 rn) ∧ w'.cell? ⟨gb, go + 2, none⟩ = some (.int .i64 an)) (S9.out) ?_
 repeat ((first | refine Lex.skips (by rfl) ?_ | (refine Lex.quiet (v := ?_) (by rfl) (by rfl) ?_ ?_; rotate_left; focus (intro w' hS'; go_simp; try rfl))); try simp only [Act.put, List.setIfInBounds_toArray, List.set_cons_zero, List.set_cons_succ])
 refine Lex.loud (by rfl) (by rfl) ?_
 intro K' hK'
 go_simp
 by_cases hA : k < flr m + r16 (8 * rn + an)
 ·have HFIT : Hid (fits0 m k = false) := Lib.hid (by unfold fits0; rw [HFS.out]; exact decide_eq_false (by omega))
  refine (refpush_full _ k (flr m) rn an hrn64 han96 HN16.out hk65 hf16 (by omega) hA).mono ?_
  rintro e w' ⟨rfl, rfl⟩
  clear hA
  refine hK' _ _ (S9.out) ?_
  clear hK'
  try simp only [Act.put, List.setIfInBounds_toArray, List.set_cons_zero, List.set_cons_succ]
  repeat ((first | refine Lex.skips (by rfl) ?_ | (refine Lex.quiet (v := ?_) (by rfl) (by rfl) ?_ ?_; rotate_left; focus (intro w' hS'; go_simp; try rfl))); try simp only [Act.put, List.setIfInBounds_toArray, List.set_cons_zero, List.set_cons_succ])
  refine Lex.done ?_
  refine Lex.opens (fun w' => True) (trivial) ?_
  repeat ((first | refine Lex.skips (by rfl) ?_ | (refine Lex.quiet (v := ?_) (by rfl) (by rfl) ?_ ?_; rotate_left; focus (intro w' hS'; go_simp; try rfl))); try simp only [Act.put, List.setIfInBounds_toArray, List.set_cons_zero, List.set_cons_succ])
  refine Lex.done ?_
  refine Lex.ends ?_
  generalize w9.drew = w10 at *
  have d9 : w10.cell? ⟨p, 9, none⟩ = some (.int .i64 0) := cell_of_heap HN10.out rfl
  have f9 : w10.frozen? ⟨p, 9, none⟩ = false := frozen_of_heap HN10.out
  have HN11 : Hid ((w10.setCell ⟨p, 9, none⟩ (.int .i64 3)).heap[p]? = some (.cells #[.slice da m.d.length dc, .slice fa m.f.length fc, .pointer (some ⟨q, 0, none⟩), .pointer (some ⟨t, 0, none⟩), .int .i64 fuel, .int .i64 0, .int .u64 k, .int .i64 0, .slice none 0 0, .int .i64 3, .int .i64 0] 135 (0, 0))) := Lib.hid (heap_setCell (o := 9) HN10.out)
  have HRM11 := Lib.hid (HRM10.out.step ((Fr.refl (only [p]) w10).setCell ⟨p, 9, none⟩ (.int .i64 3) (.inl (by simp))) HPQ.out)
  go_wp2_with fail
  go_ret2
  refine ⟨_, rfl, _, _, ⟨_, by rw [show newS m k inp fuel = { sp0 m k inp fuel with e := (3, 0) } from by unfold newS; rw [HFIT.out]; rfl]; exact HRM11.out.space (fc := fc) (s := { sp0 m k inp fuel with e := (3, 0) }) rfl rfl HARG.out.blen rfl rfl rfl rfl HARG.out.ended HN11.out⟩, fun i hi => ?_, fun i hi => ?_, HRM11.out.fr⟩
  ·have := HW.out; rcases hi with e | e | e <;> omega
  ·rcases hi with e | e | e
   ·exact .inl e
   ·exact .inr (by have := HRM11.out.bq; omega)
   ·exact .inr (HRM11.out.tv i e).1
 ·have HFIT : Hid (fits0 m k = true) := Lib.hid (by unfold fits0; rw [HFS.out]; exact decide_eq_true (by omega))
  refine (refpush_room _ k (flr m) rn an hrn64 han96 HN16.out hk65 hf16 (by omega) hA).mono ?_
  rintro e w' ⟨rfl, rfl⟩
  clear hA
  refine hK' _ _ (S9.out) ?_
  clear hK'
  try simp only [Act.put, List.setIfInBounds_toArray, List.set_cons_zero, List.set_cons_succ]
  repeat ((first | refine Lex.skips (by rfl) ?_ | (refine Lex.quiet (v := ?_) (by rfl) (by rfl) ?_ ?_; rotate_left; focus (intro w' hS'; go_simp; try rfl))); try simp only [Act.put, List.setIfInBounds_toArray, List.set_cons_zero, List.set_cons_succ])
  refine Lex.done ?_
  refine Lex.opens (fun w' => True) (trivial) ?_
  repeat ((first | refine Lex.skips (by rfl) ?_ | (refine Lex.quiet (v := ?_) (by rfl) (by rfl) ?_ ?_; rotate_left; focus (intro w' hS'; go_simp; try rfl))); try simp only [Act.put, List.setIfInBounds_toArray, List.set_cons_zero, List.set_cons_succ])
  refine Lex.done ?_
  refine Lex.ends ?_
  generalize w9.drew = w10 at *
  have d6 : w10.cell? ⟨p, 6, none⟩ = some (.int .u64 k) := cell_of_heap HN10.out rfl
  have f6 : w10.frozen? ⟨p, 6, none⟩ = false := frozen_of_heap HN10.out
  have HN11 : Hid ((w10.setCell ⟨p, 6, none⟩ (.int .u64 (k - r16 (8 * rn + an) : Nat))).heap[p]? = some (.cells #[.slice da m.d.length dc, .slice fa m.f.length fc, .pointer (some ⟨q, 0, none⟩), .pointer (some ⟨t, 0, none⟩), .int .i64 fuel, .int .i64 0, .int .u64 (k - r16 (8 * rn + an) : Nat), .int .i64 0, .slice none 0 0, .int .i64 0, .int .i64 0] 135 (0, 0))) := Lib.hid (heap_setCell (o := 6) HN10.out)
  have r11 := (Fr.refl (only [p]) w10).setCell ⟨p, 6, none⟩ (.int .u64 (k - r16 (8 * rn + an) : Nat)) (.inl (by simp))
  have HRM11 := Lib.hid (HRM10.out.step r11 HPQ.out)
  have HB11 := Lib.hid (r11.heap HB10.out (by have := HW.out; simp; omega))
  have HSP : Hid (RSpAt (w10.setCell ⟨p, 6, none⟩ (.int .u64 (k - r16 (8 * rn + an) : Nat))) (fun i => i = p ∨ i = g ∨ i = t) (fun i => i < B ∨ i = q ∨ (Value.slice ga inp.length gc).ownBlock = some i) p ((sp1 m k inp fuel).layS 0 (List.replicate 0 0)) ⟨da, dc, fa, fc, q, g, c, t, t, .slice ga inp.length gc, .slice none 0 0, .slice none 0 0⟩) := Lib.hid (HRM11.out.space (fc := fc) (s := sp1 m k inp fuel) rfl rfl HARG.out.blen rfl rfl rfl rfl (HARG.out.one HFIT.out) (by
   have e : k - r16 (8 * rn + an) = k - fsz (fnOf m 0) := by rw [HFS.out]
   exact HN11.out.trans (by rw [e]; rfl)))
  clear r11
  go_upto_region 15 with (fail)
  generalize w10.setCell ⟨p, 6, none⟩ (.int .u64 (k - r16 (8 * rn + an) : Nat)) = w11 at *
  clear d6 f6
  go_wp2_with fail
  go_loopw [17] (fun y wr => ∃ j : Nat, j ≤ pn ∧ y = .int .i64 j ∧ Hid (RSpAt wr (fun i => i = p ∨ i = g ∨ i = t) (fun i => i < B ∨ i = q ∨ (Value.slice ga inp.length gc).ownBlock = some i) p ((sp1 m k inp fuel).layS 0 (List.replicate j 0)) ⟨da, dc, fa, fc, q, g, c, t, t, .slice ga inp.length gc, .slice none 0 0, .slice none 0 0⟩) ∧ Hid (Fr no w wr) ∧ Hid (wr.heap[w.heap.size]? = some (.cells #[.slice da m.d.length dc, .slice fa m.f.length fc] 25 (0, 0)))) (fun y _ => (pn - intOf y).toNat)
  case atStart => exact ⟨0, by omega, by simp, HSP, Lib.hid HRM11.out.fr, HB11⟩
  case round =>
   obtain ⟨j, hj, rfl, hsp, hfr, hmb⟩ := hrel
   have m1 : wr.cell? ⟨w.heap.size, 1, none⟩ = some (.slice (some ⟨gb, go, none⟩) m.f.length fc) := by rw [← HFA.out]; exact cell_of_heap hmb.out rfl
   have p0 := FC.out wr hfr.out
   by_cases hjl : j < pn
   ·have hlt : (j : Int) < pn := by omega
    have hrg := HARG.out.rg (k := j) (by rw [HPN.out]; exact hjl) (List.replicate j 0)
    have hst := rset_ok wr j 0 (by decide) hsp.out
    rw [setS_0 hrg.2 hrg.1, ← lay_zero] at hst
    have HST := Lib.hid hst
    clear hrg hst
    go_wp2_with fail
    refine HST.out.mono ?_
    rintro e w12 ⟨rfl, hs12, r12⟩
    have H12 := Lib.hid hs12
    have R12 := Lib.hid (hfr.out.trans' r12 (fun i hi _ => by have := HW.out; rcases hi with e | e | e <;> omega))
    have B12 := Lib.hid (r12.heap hmb.out (fun hi => by have := HW.out; rcases hi with e | e | e <;> omega))
    clear hs12 r12
    go_wp2_with fail
    go_roundw
    case rel => exact ⟨j + 1, by omega, by go_num, H12, R12, B12⟩
    case measure => first | (simp [intOf]; done) | (simp [intOf]; omega)
   ·obtain rfl : j = pn := by omega
    have HNS : Hid (newS m k inp fuel = (sp1 m k inp fuel).layS 0 (List.replicate j 0)) := Lib.hid (by unfold newS; rw [HFIT.out, if_pos rfl, HPN.out])
    have hlt : ¬ ((j : Nat) : Int) < j := by omega
    go_wp2_with fail
    go_ret2
    refine ⟨_, rfl, _, _, ⟨_, by rw [HNS.out]; exact hsp.out⟩, fun i hi => ?_, fun i hi => ?_, hfr.out⟩
    ·have := HW.out; rcases hi with e | e | e <;> omega
    ·rcases hi with e | e | e
     ·exact .inl e
     ·exact .inr (by have := HRM11.out.bq; omega)
     ·exact .inr (HRM11.out.tv i e).1
end

end Go.Proofs.YtihnkijeefkefaaGreat

set_option linter.unusedSimpArgs false
set_option linter.unusedVariables false
set_option linter.unusedSectionVars false
set_option linter.unnecessarySimpa false
set_option maxRecDepth 100000
/- Are two spaces of the document the same? -/
namespace Go.Proofs.YtihnkijeefkefaaGreat
open Go.RowKit

attribute [local go_sem] Program.isFuncB Program.isSliceB

variable {w w' w'' w0 w1 : World} {O R O2 R2 X : Nat → Prop} {p q : Nat} {s s' t t' : Zp} {z y : Rz}

theorem run_cut {n c a : Nat} (ia : Option Addr) (ha : a ≤ n) (w : World) : (Go.Instr.slice 22 (.slice ia n c) (some (.int .i64 a)) none none).run Tryz.prog w = .ok (.slice (if c = a then ia else ia.map (·.add (a * 1))) (n - a) (c - a)) w := by
 have hto : ((a : Nat) : Int).toNat = a := rfl
 have h0 : (0 : Int) ≤ a := by omega
 have h1 : (a : Int) ≤ n := by omega
 by_cases hc : c = a
 ·subst hc
  go_simp
 ·go_simp
theorem at_two {b : Nat} {u v : Value} (h : w.cell? ⟨b, 0, none⟩ = some u) (k : w.cell? ⟨b, 1, none⟩ = some v) : At w b 0 [u, v] := fun j x hj => by
 match j, hj with
 | 0, e => cases e; exact h
 | 1, e => cases e; exact k
structure RCells (w : World) (p : Nat) (s : Zp) (da : Option Addr) (dc : Nat) (fa : Option Addr) (fc q t : Nat) (ia : Option Addr) (n ic a : Nat) (ka : Option Addr) (kn kc : Nat) : Prop where
 c0 : w.cell? ⟨p, 0, none⟩ = some (.slice da s.m.d.length dc)
 c1 : w.cell? ⟨p, 1, none⟩ = some (.slice fa s.m.f.length fc)
 c2 : w.cell? ⟨p, 2, none⟩ = some (.pointer (some ⟨q, 0, none⟩))
 c3 : w.cell? ⟨p, 3, none⟩ = some (.pointer (some ⟨t, 0, none⟩))
 c4 : w.cell? ⟨p, 4, none⟩ = some (.int .i64 s.fuel)
 c5 : w.cell? ⟨p, 5, none⟩ = some (.int .i64 s.f)
 c6 : w.cell? ⟨p, 6, none⟩ = some (.int .u64 s.at_)
 c7 : w.cell? ⟨p, 7, none⟩ = some (.int .i64 s.pc)
 c8 : w.cell? ⟨p, 8, none⟩ = some (.slice ka kn kc)
 t0 : w.cell? ⟨t, 0, none⟩ = some (.slice ia n ic)
 t1 : w.cell? ⟨t, 1, none⟩ = some (.int .i64 a)
theorem RSpAt.cells (h : RSpAt w O R p s z) : ∃ ia n ic a ka kn kc, s.inp.length = n ∧ s.pos = a ∧ s.ls.length = kn ∧ Reads w (.slice ia n ic) 1 n (u8s s.inp) ∧ w.ownsRow 0 143 4 (.slice ka kn kc) kn (rlinksC s.ls) ∧ ∀ w', Fr no w w' → RCells w' p s z.da z.dc z.fa z.fc z.q z.t ia n ic a ka kn kc := by
 obtain ⟨ia, ic, hiv⟩ := h.tape.inn.shape
 obtain ⟨ka, kc, hkv⟩ := owns_shape h.links
 have h1 := h.tape.inn
 have h2 := h.links
 rw [hiv] at h1
 rw [hkv] at h2
 refine ⟨ia, _, ic, _, ka, _, kc, rfl, rfl, rfl, h1, h2, fun w' r => ?_⟩
 have ho := r.heap h.obj (by simp)
 have ht := r.heap h.tape.obj (by simp)
 exact ⟨cell_of_heap ho rfl, cell_of_heap ho rfl, cell_of_heap ho rfl, cell_of_heap ho rfl, cell_of_heap ho rfl, cell_of_heap ho rfl, cell_of_heap ho rfl, cell_of_heap ho rfl, by rw [← hkv]; exact cell_of_heap ho rfl, by rw [← hiv]; exact cell_of_heap ht rfl, cell_of_heap ht rfl⟩
attribute [local irreducible] sameS
end Go.Proofs.YtihnkijeefkefaaGreat

set_option linter.unusedSimpArgs false
set_option linter.unusedVariables false
set_option linter.unusedSectionVars false
set_option linter.unnecessarySimpa false
set_option maxRecDepth 100000
/- Things side by side: one more, and in pairs. -/
namespace Go.Proofs.YtihnkijeefkefaaGreat
open Go.RowKit

attribute [local go_sem] Program.isFuncB Program.isSliceB

variable {w w' w'' w0 w1 : World} {O R X : Nat → Prop} {p q p2 q2 : Nat} {s s' t t' : Zp} {A A' B B' C D : (Nat → Prop) → (Nat → Prop) → World → Prop}

theorem Held.add (ha : Thing A) (h : Held w0 w A X) (hX : ∀ k, X k → w0.heap.size ≤ k) {O2 R2 : Nat → Prop} (hb : B O2 R2 w') (r : Fr no w w') (hO : ∀ k, O2 k → w.heap.size ≤ k) (hR : ∀ k, R2 k → k < w0.heap.size ∨ w.heap.size ≤ k) : Held w0 w' (Both A B) X := by
 obtain ⟨O1, R1, h1, hO1, r0, hX1, hRX⟩ := h
 have l1 := ha.lt _ _ _ h1
 refine ⟨fun k => O1 k ∨ O2 k, fun k => R1 k ∨ R2 k, ⟨O1, R1, O2, R2, ha.fr _ _ _ _ _ h1 r (fun k hk => hk.elim), hb, fun k hk => ⟨fun ho => ?_, fun hr => ?_⟩, fun k hk hr => ?_, fun k => Iff.rfl, fun k => Iff.rfl⟩, fun k hk => ?_, r0.trans r, fun k hk => Nat.lt_of_lt_of_le (hX1 k hk) r.size, fun k hk hx => ?_⟩
 ·have := l1 k (.inl hk); have := hO k ho; omega
 ·have h2 := l1 k (.inl hk); have h3 := (hO1 k hk).1
  rcases hR k hr with e | e <;> omega
 ·have := l1 k (.inr hr); have := hO k hk; omega
 ·rcases hk with hk | hk
  ·exact hO1 k hk
  ·exact ⟨Nat.le_trans r0.size (hO k hk), fun hx => by have := hX1 k hx; have := hO k hk; omega⟩
 ·rcases hk with hk | hk
  ·exact hRX k hk hx
  ·have h2 := hX1 k hx; have h3 := hX k hx
   rcases hR k hk with e | e <;> omega
theorem Both.left2 {f : Nat} {args : Array Value} {r : Ending} (ha : Thing A) (hb : Thing B) (h : Both A B O R w) (hc : ∀ O1 R1, (∀ k, O1 k → O k) → A O1 R1 w → Calls Tryz.prog f args w fun e w' => e = r ∧ ThTo w w' O1 R1 A') :
  Calls Tryz.prog f args w fun e w' => e = r ∧ ThTo w w' O R (Both A' B) := by
 have h0 := h
 obtain ⟨O1, R1, O2, R2, h1, h2, d1, d2, hO, hR⟩ := h
 have hb2 : Both (fun O R w' => A O R w' ∧ O = O1 ∧ R = R1) B O R w := ⟨O1, R1, O2, R2, ⟨h1, rfl, rfl⟩, h2, d1, d2, hO, hR⟩
 have l2 := hb.lt _ _ _ h2
 refine (hc O1 R1 (fun k hk => (hO k).2 (.inl hk)) h1).mono ?_
 rintro e w' ⟨rfl, O', h', r, n⟩
 refine ⟨rfl, fun k => O' k ∨ O2 k, ⟨O', R1, O2, R2, h', hb.fr _ _ _ _ _ h2 r (fun k hk _ => d1 k hk), fun k hk => ?_, d2, fun k => Iff.rfl, hR⟩, r.mono (fun k hk _ => (hO k).2 (.inl hk)), fun k hk => ?_⟩
 ·rcases n k hk with h | h
  ·exact d1 k h
  ·exact ⟨fun ho => by have := l2 k (.inl ho); omega, fun ho => by have := l2 k (.inr ho); omega⟩
 ·rcases hk with hk | hk
  ·exact (n k hk).imp (fun h => (hO k).2 (.inl h)) id
  ·exact .inl ((hO k).2 (.inr hk))
theorem Held.call2 {X : Nat → Prop} {f : Nat} {args : Array Value} {r : Ending} (h : Held w0 w A X) (hc : ∀ O R, (∀ k, O k → w0.heap.size ≤ k) → A O R w → Calls Tryz.prog f args w fun e w' => e = r ∧ ThTo w w' O R A') :
  Calls Tryz.prog f args w fun e w' => e = r ∧ Held w0 w' A' X ∧ Fr (fun k => ¬ X k ∧ w0.heap.size ≤ k) w w' := by
 obtain ⟨O, R, h, hO, r0, hX, hRX⟩ := h
 refine (hc O R (fun k hk => (hO k hk).1) h).mono ?_
 rintro e w' ⟨rfl, O', h', r, h2⟩
 exact ⟨rfl, ⟨O', R, h', fun k hk => (h2 k hk).elim (fun h => hO k h) (fun h => ⟨Nat.le_trans r0.size h, fun hx => by have := hX k hx; omega⟩), r0.trans' r (fun k hk _ => (hO k hk).1), fun k hk => Nat.lt_of_lt_of_le (hX k hk) r.size, hRX⟩, r.mono (fun k hk _ => ⟨(hO k hk).2, (hO k hk).1⟩)⟩
def PrT (p q : Nat) (s : Zp) : (Nat → Prop) → (Nat → Prop) → World → Prop := Both (SpT p s) (RSpT q s)
theorem prT (p q : Nat) (s : Zp) : Thing (PrT p q s) := Both.thing (spT p s) (rspT q s)
theorem prT_ok {O R : Nat → Prop} (h : PrT p q s O R w) : s.Ok := h.at1 (fun _ _ ⟨_, h⟩ => h.ok)
theorem Held.does (h : Held w0 w (PrT p q s) X) (y : Ax) (ua : Option Addr) (uc : Nat) (hr : Reads w0 (.slice ua y.l.length uc) 1 y.l.length (ints y.l)) (hf : y.Fine) (hd : s.ds.length < 100000) (hal : y.l.length ≤ 1000000) :
  Calls Tryz.prog 36 #[.pointer (some ⟨p, 0, none⟩), .pointer (some ⟨q, 0, none⟩), .agg #[.int .i64 y.k, .int .i64 y.r, .int .i64 y.n, .int .i64 y.b, .int .u64 y.v, .slice ua y.l.length uc, .int .i64 y.ek, .int .i64 y.ec]] w fun e w' => e = .returned (.bool true) ∧ Held w0 w' (PrT p q (s.actS y)) X ∧ Fr (fun k => ¬ X k ∧ w0.heap.size ≤ k) w w' := by
 have fr := h.frame
 exact h.call2 (fun O R hO hb => does_ok w y ua uc (fun w' r => hr.fr (fr.trans' r (fun k hk _ => hO k hk)) (by simp)) hf hd hal hb)
end Go.Proofs.YtihnkijeefkefaaGreat

set_option linter.unusedSimpArgs false
set_option linter.unusedVariables false
set_option linter.unusedSectionVars false
set_option linter.unnecessarySimpa false
set_option maxRecDepth 100000
/- SpaceSame. -/
namespace Go.Proofs.YtihnkijeefkefaaGreat
open Go.RowKit

attribute [local go_sem] Program.isFuncB Program.isSliceB
attribute [local irreducible] Zp.callS Zp.layS Zp.down Zp.argsS newS Zp.actS sameS
end Go.Proofs.YtihnkijeefkefaaGreat

set_option linter.unusedSimpArgs false
set_option linter.unusedVariables false
set_option linter.unusedSectionVars false
set_option linter.unnecessarySimpa false
set_option maxRecDepth 100000
/- A copy of a module, whose bytes are numbers, spare room too; what was lent is written over. -/
namespace Go.Proofs.YtihnkijeefkefaaGreat
open Go.RowKit

attribute [local go_sem] Program.isFuncB Program.isSliceB

variable {w w' w'' w0 : World}

def DataN (w : World) (base : Nat) (v : Value) (n : Nat) (xs : List Value) : Prop := w.ownsRow base 5 1 v n xs ∧ Nums .u8 w v
theorem datan_fr {S : Nat → Prop} {base n : Nat} {v : Value} {xs : List Value} (h : DataN w base v n xs) (r : Fr S w w') (hs : ∀ k, v.ownBlock = some k → ¬ S k) : DataN w' base v n xs :=
 ⟨owns_fr h.1 r hs, h.2.frx r (fun g hg => (h.1.lt g hg).2) hs⟩
theorem copybytesn_ok (w : World) (v : Value) (bs : List Nat) (hb : Reads w v 1 bs.length (u8s bs)) (hl : bs.length ≤ 100000) :
  Calls Tryz.prog 111 #[v] w fun e w' => ∃ x, e = .returned x ∧ w'.ownsRow w.heap.size 5 1 x bs.length (u8s bs) ∧ Nums .u8 w' x ∧ Fr no w w' := by
 obtain ⟨va, vc, rfl⟩ := hb.shape
 have r0 := (Fr.refl no w).alloc (.cells #[] 5)
 have HO := Lib.hid (owns_new w 5 1)
 have HB := Lib.hid (hb.fr r0 (by simp))
 have R0 := Lib.hid r0
 clear hb r0
 go_enter Tryz.func111, Tryz.ntmps111
 go_wp2_with (at_builtin; (refine wpList_append_nu (k := .u8) rfl (.tmp 3) _ 22 rfl w.heap.size 5 0 1 Tryz.underlying22 Tryz.infoU8 _ 0 _ rfl HO.out bs.length _ HB.out (u8s_one _) (by unfold maxLen; omega) (by omega) (by simp only [World.size_alloc]; omega) (Nums.made (by simp)) (fun u hu => by simp only [u8s, List.mem_map] at hu; obtain ⟨q, -, rfl⟩ := hu; exact ⟨_, rfl⟩) ?_); intro ga gc w6 ho hg hb hnu)
 have R6 := R0.out.trans' ((Fr.refl (fun k => (Value.slice (some ⟨w.heap.size, 0, none⟩) 0 0).ownBlock = some k) _).grown hg (fun k hk => .inl hk)) (fun k hk _ => by simp [Value.ownBlock] at hk; omega)
 have HN6 : Hid (Nums .u8 w6 (.slice ga bs.length gc)) := Lib.hid (by simpa using hnu)
 have HO6 : Hid (w6.ownsRow w.heap.size 5 1 (.slice ga bs.length gc) bs.length (u8s bs)) := Lib.hid (by simpa using ho)
 clear ho hg hb hnu
 go_ret
 exact ⟨_, rfl, HO6.out, HN6.out, R6⟩
structure CMN (w wr : World) (m : Mx) (tb : Nat) (box : Array Value) (xa : Option Addr) (xc : Nat) (oa : Option Addr) (oc : Nat) (l : List FxV) : Prop where
 obj : wr.heap[tb]? = some (.cells #[.slice xa m.d.length xc, .slice oa l.length oc] 25 (0, 0))
 box : wr.heap[w.heap.size]? = some (.cells box 25 (0, 0))
 res : wr.heap[w.heap.size + 1]? = some (.cells #[.slice none 0 0, .slice none 0 0] 25 (0, 0))
 data : DataN wr w.heap.size (.slice xa m.d.length xc) m.d.length (u8s m.d)
 fns : FnsOwn wr w.heap.size (.slice oa l.length oc) l
 fr : Fr no w wr
 lo : w.heap.size + 1 < tb
theorem CMN.fn {wr wr' : World} {m : Mx} {tb : Nat} {box : Array Value} {xa oa : Option Addr} {xc oc : Nat} {l : List FxV} (h : CMN w wr m tb box xa xc oa oc l) (r : Fr no wr wr') : CMN w wr' m tb box xa xc oa oc l :=
 ⟨r.heap h.obj (by simp), r.heap h.box (by simp), r.heap h.res (by simp), datan_fr h.data r (by simp), h.fns.fn r, h.fr.trans r, h.lo⟩
theorem CMN.turn {wr wr' : World} {m : Mx} {tb fb : Nat} {box cs : Array Value} {xa oa : Option Addr} {xc oc : Nat} {l : List FxV} (h : CMN w wr m tb box xa xc oa oc l) (r : Fr (only [fb]) wr wr') (hf : wr.heap[fb]? = some (.cells cs 41 (0, 0))) (h1 : ∀ k, (Value.slice oa l.length oc).ownBlock = some k → k ≠ fb) (hb : w.heap.size + 1 < fb) (hn : fb ≠ tb) : CMN w wr' m tb box xa xc oa oc l := by
 refine ⟨r.heap h.obj (by simp; omega), r.heap h.box (by simp; omega), r.heap h.res (by simp; omega), datan_fr h.data r (fun k hk e => ?_), ⟨owns_fr h.fns.row r (fun k hk e => h1 k hk (by simpa using e)), fun p hp => (h.fns.code p hp).odd (ts := [112, 3]) r (fun k hk => .inr ?_) (by simp) (by simp)⟩, h.fr.trans' r (fun k hk _ => by simp at hk; omega), h.lo⟩
 ·simp at e; subst e; exact row_block_ne h.data.1 hf (by decide) hk
 ·simp at hk; subst hk; exact ⟨_, _, hf, by decide⟩
theorem CMN.app {wr : World} {m : Mx} {tb : Nat} {box : Array Value} {xa oa ga : Option Addr} {xc oc gc : Nat} {l : List FxV} {p : FxV} (h : CMN w wr m tb box xa xc oa oc l) (hc : CodeOwn wr w.heap.size p.val p.1.c) (hg : wr.grownBy w' (Value.slice oa l.length oc).ownBlock) (ho : w'.ownsRow w.heap.size 41 4 (.slice ga (l.length + 1) gc) (l.length + 1) (fCells l ++ p.1.cells p.val)) : CMN w (w'.setCell ⟨tb, 1, none⟩ (.slice ga (l.length + 1) gc)) m tb box xa xc ga gc (l ++ [p]) := by
 have q : Fr (fun k => (Value.slice oa l.length oc).ownBlock = some k) wr w' := (Fr.refl _ wr).grown hg (fun k hk => .inl hk)
 have o1 := q.heap h.obj (row_block_ne h.fns.row h.obj (by decide))
 have b1 := q.heap h.box (row_block_ne h.fns.row h.box (by decide))
 have s1 := q.heap h.res (row_block_ne h.fns.row h.res (by decide))
 have d1 := datan_fr h.data q (fun k hk e => rows_ne h.data.1 h.fns.row (by decide) k hk e)
 have f1 := h.fns.app hc hg ho
 have rs : Fr (only [tb]) w' (w'.setCell ⟨tb, 1, none⟩ (.slice ga (l.length + 1) gc)) := (Fr.refl _ w').setCell _ _ (.inl (by simp))
 have lo := h.lo
 refine ⟨?_, rs.heap b1 (by simp; omega), rs.heap s1 (by simp; omega), datan_fr d1 rs (fun k hk e => by simp at e; subst e; exact row_block_ne d1.1 o1 (by decide) hk), by rw [List.length_append]; exact f1.odd rs (fun k hk => .inr (by simp at hk; subst hk; exact ⟨_, _, o1, by decide⟩)), (h.fr.trans' q (fun k hk _ => (h.fns.row.lt k hk).1)).trans' rs (fun k hk _ => by simp at hk; omega), h.lo⟩
 have := heap_setCell (o := 1) (v := .slice ga (l.length + 1) gc) o1
 simpa using this
set_option maxRecDepth 100000 in
set_option maxHeartbeats 16000000 in
theorem copymodn_ok (w : World) (m : Mx) (da : Option Addr) (dc : Nat) (fa : Option Addr) (fc : Nat) (hm : ModIn w m da dc fa) (hs : m.Small) :
  Calls Tryz.prog 46 #[.agg #[.slice da m.d.length dc, .slice fa m.f.length fc]] w fun e w' => ∃ a c a' c', e = .returned (.agg #[.slice a m.d.length c, .slice a' m.f.length c']) ∧ (ModOwn w' w.heap.size m a c a' c' ∧ Nums .u8 w' (.slice a m.d.length c)) ∧ Fr no w w' := by
 have HM := Lib.hid hm
 have HS := Lib.hid hs
 have hs1 := hs.data
 have hs2 := hs.fns
 have r1 := (Fr.refl no w).alloc (.cells #[.slice da m.d.length dc, .slice fa m.f.length fc] 25)
 have r2 := r1.alloc (.cells #[.slice none 0 0, .slice none 0 0] 25)
 have q2 := (Fr.refl no (w.alloc (.cells #[.slice da m.d.length dc, .slice fa m.f.length fc] 25))).alloc (.cells #[.slice none 0 0, .slice none 0 0] 25)
 have B2 := Lib.hid (q2.heap (modObj w (.slice da m.d.length dc) (.slice fa m.f.length fc)) (by simp))
 have z2 := modObj (w.alloc (.cells #[.slice da m.d.length dc, .slice fa m.f.length fc] 25)) (.slice none 0 0) (.slice none 0 0)
 rw [World.size_alloc] at z2
 have Z2 := Lib.hid z2
 have R2 := Lib.hid r2
 have CB := Lib.hid (copybytesn_ok _ _ m.d (hm.data.fr r2 (by simp)) (by omega))
 have S2 : Hid (((w.alloc (.cells #[.slice da m.d.length dc, .slice fa m.f.length fc] 25)).alloc (.cells #[.slice none 0 0, .slice none 0 0] 25)).heap.size = w.heap.size + 2) := Lib.hid (by rw [World.size_alloc, World.size_alloc])
 clear r1 r2 q2 z2 hm hs
 go_enter Tryz.func46, Tryz.ntmps46
 obtain ⟨c0, c1⟩ := cells2 B2.out
 go_wp2_with fail
 refine CB.out.mono ?_
 rintro e w3 ⟨x, rfl, hx, hnx, r3⟩
 obtain ⟨xa, xc, rfl⟩ := owns_shape hx
 have r4 := (Fr.refl no w3).alloc (.cells #[.slice xa m.d.length xc, .slice none 0 0] 25)
 obtain ⟨tb, htb⟩ : ∃ b, b = w3.heap.size := ⟨_, rfl⟩
 have C4 : Hid (CMN w (w3.alloc (.cells #[.slice xa m.d.length xc, .slice none 0 0] 25)) m w3.heap.size #[.slice da m.d.length dc, .slice fa m.f.length fc] xa xc none 0 []) := Lib.hid (by
  have hsz := r3.size
  rw [S2.out] at hsz
  exact ⟨heap_new _ _, r4.heap (r3.heap B2.out (by simp)) (by simp), r4.heap (r3.heap Z2.out (by simp)) (by simp), datan_fr ⟨owns_base hx (fun k hk => by have := (hx.lt k hk).1; rw [S2.out] at this; omega), hnx⟩ r4 (by simp), ⟨World.ownsRow_nil _ _ _ _, fun p hp => (by cases hp)⟩, R2.out.trans (r3.trans r4), by omega⟩)
 rw [← htb] at C4
 clear r3 r4 hx CB c0 c1 B2 Z2 S2 R2
 go_wp2_with fail
 try rw [← htb]
 clear htb
 go_loopw [4] (fun x wr => ∃ (l : List FxV) (oa : Option Addr) (oc : Nat), l.length ≤ m.f.length ∧ x = .int .i64 l.length ∧ Hid (l.map Prod.fst = m.f.take l.length) ∧ Hid (CMN w wr m tb #[.slice da m.d.length dc, .slice fa m.f.length fc] xa xc oa oc l)) (fun x _ => (m.f.length - intOf x).toNat)
 case atStart => exact ⟨[], none, 0, by simp, rfl, Lib.hid rfl, C4⟩
 case round =>
  obtain ⟨l, oa, oc, hk, rfl, hpre, C0⟩ := hrel
  obtain ⟨c0, c1⟩ := cells2 C0.out.box
  by_cases hks : l.length < m.f.length
  ·have hks' : (l.length : Int) < m.f.length := by omega
   have FI := HM.out.fns.fr C0.out.fr
   obtain ⟨b, of, ca, cc, rfl, hi⟩ := FI l.length hks
   obtain ⟨d0, d1, d2, d3⟩ := hi.four
   have hsm := HS.out.each _ (List.getElem_mem hks)
   obtain ⟨fx, hfx⟩ : ∃ i, i = m.f[l.length] := ⟨_, rfl⟩
   have HSN : Hid (l.map Prod.fst ++ [fx] = m.f.take (l.length + 1)) := Lib.hid (by rw [List.take_succ_eq_append_getElem hks, hpre.out, hfx])
   have CODE := hi.code
   rw [← hfx] at d0 d1 d2 d3 CODE hsm
   clear hi FI hfx
   obtain ⟨fp, fr, far, fcode⟩ := fx
   obtain ⟨hsm1, hsm2⟩ := hsm
   dsimp only at hsm1 hsm2 d0 d1 d2 d3 CODE
   have r1 := (Fr.refl no wr).alloc (.cells #[.int .i64 fp, .int .i64 fr, .int .i64 far, .slice ca fcode.length cc] 41)
   have C1 := Lib.hid (C0.out.fn r1)
   have F1 := Lib.hid (fnObj wr fp fr far (.slice ca fcode.length cc))
   have J1 := Lib.hid (copycode_own _ ca cc fcode (CODE.fr r1) (by omega) (fun i hi => by have := hsm2 i hi; omega))
   have SZ1 : Hid (w.heap.size ≤ (wr.alloc (.cells #[.int .i64 fp, .int .i64 fr, .int .i64 far, .slice ca fcode.length cc] 41)).heap.size) := Lib.hid C1.out.fr.size
   have LT0 : Hid (tb < wr.heap.size) := Lib.hid (Array.getElem?_eq_some_iff.1 C0.out.obj).1
   have NE0 : Hid (∀ k, (Value.slice oa l.length oc).ownBlock = some k → k ≠ wr.heap.size) := Lib.hid (fun k hk => by have := (C0.out.fns.row.lt k hk).2; omega)
   have f3 := frozen_of_heap (o := 3) F1.out
   obtain ⟨f0, f1, f2, f3'⟩ := cells4 F1.out
   clear r1 CODE hsm1 hsm2
   go_wp2_with fail
   refine J1.out.mono ?_
   rintro e w4 ⟨va, vc, rfl, hv, r4⟩
   have CO4 := Lib.hid (CodeOwn.base hv SZ1.out)
   have C4 := Lib.hid (C1.out.fn r4)
   have F4 := Lib.hid (r4.heap F1.out (by simp))
   obtain ⟨fb, hfb⟩ : ∃ b, b = wr.heap.size := ⟨_, rfl⟩
   rw [← hfb] at F4 NE0 LT0
   have g3 := frozen_of_heap (o := 3) F4.out
   clear hv r4 J1 C0 C1 F1 SZ1 c0 c1 d0 d1 d2 d3 f0 f1 f2 f3 f3'
   try rw [← hfb]
   clear hfb
   obtain ⟨c0, c1⟩ := cells2 C4.out.box
   obtain ⟨f0, f1, f2, f3'⟩ := cells4 F4.out
   go_upto_region 7 with fail
   have rz : Fr (only [fb]) w4 (w4.setCell ⟨fb, 3, none⟩ (.slice va fcode.length vc)) := (Fr.refl _ w4).setCell _ _ (.inl (by simp))
   have C5 := Lib.hid (C4.out.turn rz F4.out NE0.out (by have := C4.out.lo; have := LT0.out; omega) (by have := LT0.out; omega))
   have F5 : Hid ((w4.setCell ⟨fb, 3, none⟩ (.slice va fcode.length vc)).heap[fb]? = some (.cells #[.int .i64 fp, .int .i64 fr, .int .i64 far, .slice va fcode.length vc] 41 (0, 0))) := Lib.hid (by
    have := heap_setCell (o := 3) (v := .slice va fcode.length vc) F4.out
    simpa using this)
   have O5 := Lib.hid (CO4.out.odd (ts := [112, 3]) rz (fun k hk => .inr (by simp at hk; subst hk; exact ⟨_, _, F4.out, by decide⟩)) (by simp) (by simp))
   clear rz C4 F4 CO4 g3 c0 c1 f0 f1 f2 f3' NE0 LT0
   generalize w4.setCell ⟨fb, 3, none⟩ (.slice va fcode.length vc) = wz at *
   have r6 := (Fr.refl no wz).alloc (.cells #[.int .i64 fp, .int .i64 fr, .int .i64 far, .slice va fcode.length vc] 41)
   have C6 := Lib.hid (C5.out.fn r6)
   have O6 := Lib.hid (O5.out.fn r6)
   have R6 := Lib.hid (reads_four wz (.int .i64 fp) (.int .i64 fr) (.int .i64 far) (.slice va fcode.length vc) 41)
   obtain ⟨t0, t1⟩ := cells2 C5.out.obj
   obtain ⟨f0, f1, f2, f3⟩ := cells4 F5.out
   clear r6 C5 O5
   go_wp2_with (at_builtin; (refine wpList_append_at rfl (.tmp 27) _ 23 rfl w.heap.size 41 (.agg zeroFn) 4 48 Tryz.underlying23 Tryz.infoFunc3 rfl (by decide) _ l.length _ rfl C6.out.fns.row 1 _ R6.out (four_one _ _ _ _ _ _ ()) (by unfold maxLen; omega) (by omega) C6.out.fr.size ?_); intro ga gc wg ho hg hb; have C7 := Lib.hid (C6.out.app (p := ((⟨fp, fr, far, fcode⟩ : Fx), va, vc)) O6.out hg ho); have ob := ((Fr.refl (fun k => (Value.slice oa l.length oc).ownBlock = some k) _).grown hg (fun k hk => .inl hk)).heap C6.out.obj (row_block_ne C6.out.fns.row C6.out.obj (by decide)); have x1 := cell_of_heap (o := 1) ob rfl; have y1 := frozen_of_heap (o := 1) ob; clear ho hg hb ob)
   go_roundw
   case rel => exact ⟨l ++ [((⟨fp, fr, far, fcode⟩ : Fx), va, vc)], _, _, by simp; omega, by rw [List.length_append]; go_num, Lib.hid (by rw [List.map_append, List.length_append]; exact HSN.out), C7⟩
   case measure => first | (simp [intOf]; done) | (simp [intOf]; omega)
  ·have hlk : l.length = m.f.length := by omega
   have HLK := Lib.hid hlk
   have HE : Hid (l.map Prod.fst = m.f) := Lib.hid (by rw [hpre.out, hlk, List.take_length])
   obtain ⟨t0, t1⟩ := cells2 C0.out.obj
   obtain ⟨s0, s1⟩ := cells2 C0.out.res
   have g0 := frozen_of_heap (o := 0) C0.out.res
   have g1 := frozen_of_heap (o := 1) C0.out.res
   clear hlk hpre
   go_wp2_with fail
   have rr : Fr (only [w.heap.size + 1]) wr ((wr.setCell ⟨w.heap.size + 1, 0, none⟩ (.slice xa m.d.length xc)).setCell ⟨w.heap.size + 1, 1, none⟩ (.slice oa l.length oc)) := ((Fr.refl _ wr).setCell _ _ (.inl (by simp))).setCell _ _ (.inl (by simp))
   have hh := heap_setCell (o := 1) (v := .slice oa l.length oc) (heap_setCell (o := 0) (v := .slice xa m.d.length xc) C0.out.res)
   have DD := datan_fr C0.out.data rr (fun k hk e => by simp at e; subst e; exact row_block_ne C0.out.data.1 C0.out.res (by decide) hk)
   have FF := C0.out.fns.odd rr (fun k hk => .inr (by simp at hk; subst hk; exact ⟨_, _, C0.out.res, by decide⟩))
   refine bodyPost_ret (results_one rfl rfl (load_mod _ _ (.slice xa m.d.length xc) (.slice oa l.length oc) (by simpa using hh))) rfl ?_
   refine ⟨xa, xc, oa, oc, by rw [HLK.out], ?_, C0.out.fr.trans' rr (fun k hk _ => by simp at hk; omega)⟩
   exact ⟨⟨DD.1, l, HE.out, by rw [← HLK.out]; exact FF⟩, DD.2⟩

theorem Lent.owned {base : Nat} {v : Value} {bs : List Nat} (h : Lent w base v bs) : ∃ g cap, v = .slice (some ⟨g, 0, none⟩) bs.length (bs.length + 3) ∧ base ≤ g ∧ cap = bs.length + 3 ∧ ∃ cur : Array Value, w.heap[g]? = some (.cells cur 5 (0, 0)) ∧ cap ≤ cur.size ∧ (∀ i (hi : i < cur.size), i < cap → ∃ q : Int, cur[i] = .int .u8 q) := by
 obtain ⟨g, c, h1, h2, h3, cur, h4, h5, h6, h7⟩ := h.row
 refine ⟨g, c, h1, h2, h3, cur, h4, h7, fun i hi hc => ?_⟩
 have e : (cur.toList.take c)[i]? = some cur[i] := by rw [List.getElem?_take_of_lt hc]; simp [hi]
 rw [h5] at e
 have := List.mem_of_getElem? e
 simp only [u8s, List.mem_map] at this
 obtain ⟨q, -, hq⟩ := this
 exact ⟨q, hq.symm⟩

set_option maxHeartbeats 1000000 in
theorem overlent_ok (w : World) (B : Nat) (v : Value) (bs : List Nat) (h : Lent w B v bs) (hl : bs.length ≤ 100000) :
  Calls Tryz.prog 50 #[v] w fun e w' => e = .returned (.tuple #[]) ∧ Fr (fun k => v.ownBlock = some k) w w' := by
 obtain ⟨g, cap, rfl, hb, hcap, cur, hg, hz, hq⟩ := h.owned
 have HG0 : Hid (∃ cur : Array Value, w.heap[g]? = some (.cells cur 5 (0, 0)) ∧ cap ≤ cur.size ∧ (∀ i (hi : i < cur.size), i < cap → ∃ q : Int, cur[i] = .int .u8 q)) := Lib.hid ⟨cur, hg, hz, hq⟩
 have hc : cap < 9223372036854775808 := by omega
 have hn' : bs.length ≤ cap := by omega
 rw [← hcap]
 clear hb hg hz hq h hl hcap
 go_enter Tryz.func50, Tryz.ntmps50
 go_wp2_with fail
 go_loopw [3] (fun x wr => ∃ k : Nat, k ≤ cap ∧ x = .int .i64 k ∧ Hid (∃ cur : Array Value, wr.heap[g]? = some (.cells cur 5 (0, 0)) ∧ cap ≤ cur.size ∧ (∀ i (hi : i < cur.size), i < cap → ∃ q : Int, cur[i] = .int .u8 q)) ∧ Hid (Fr (only [g]) w wr)) (fun x _ => (cap - intOf x).toNat)
 case atStart => exact ⟨0, by omega, rfl, HG0, Lib.hid (Fr.refl _ _)⟩
 case round =>
  obtain ⟨k, hk, rfl, hg, hf⟩ := hrel
  by_cases hkc : k < cap
  ·have hkc' : (k : Int) < cap := by omega
   obtain ⟨cur, h1, h2, h3⟩ := hg.out
   obtain ⟨q, hq⟩ := h3 k (by omega) hkc
   have c1 : wr.cell? ⟨g, 0 + k, none⟩ = some (.int .u8 q) := by rw [← hq]; exact cell_of_heap h1 (by rw [Nat.zero_add]; simp)
   rw [Nat.zero_add] at c1
   have f1 : wr.frozen? ⟨g, k, none⟩ = false := frozen_of_heap h1
   have HN := Lib.hid (fun z : Int => (⟨_, heap_setCell (v := .int .u8 z) h1, by simpa using h2, by
    intro i hi hic
    rw [Array.getElem_setIfInBounds]
    ·by_cases hki : k = i
     ·rw [if_pos hki]; exact ⟨z, rfl⟩
     ·rw [if_neg hki]; exact h3 i (by simpa using hi) hic⟩ : ∃ cur' : Array Value, (wr.setCell ⟨g, k, none⟩ (.int .u8 z)).heap[g]? = some (.cells cur' 5 (0, 0)) ∧ cap ≤ cur'.size ∧ (∀ i (hi : i < cur'.size), i < cap → ∃ q : Int, cur'[i] = .int .u8 q)))
   have HF := Lib.hid (fun z : Int => hf.out.setCell ⟨g, k, none⟩ (.int .u8 z) (.inl (by simp)))
   clear h1 h2 h3 hq hg hf
   go_wp2_with fail
   go_roundw
   case rel => exact ⟨k + 1, by omega, by go_num, Lib.hid (HN.out _), Lib.hid (HF.out _)⟩
   case measure => first | (simp [intOf]; done) | (simp [intOf]; omega)
  ·obtain rfl : k = cap := by omega
   go_wp2_with fail
   exact ⟨rfl, .tuple #[], by simp [results], rfl, hf.out.mono (fun i hi => by simp at hi; simp [Value.ownBlock, hi])⟩

end Go.Proofs.YtihnkijeefkefaaGreat

set_option linter.unusedSimpArgs false
set_option linter.unusedVariables false
set_option linter.unusedSectionVars false
set_option linter.unnecessarySimpa false
set_option maxRecDepth 100000
/- Are both spaces as one? -/
namespace Go.Proofs.YtihnkijeefkefaaGreat
open Go.RowKit

attribute [local go_sem] Program.isFuncB Program.isSliceB

variable {w w' w'' w0 w1 : World} {O R O2 R2 X : Nat → Prop} {p q : Nat} {s s' t t' : Zp} {z : Pz} {y : Rz}

set_option maxHeartbeats 2000000 in
theorem malike_ok {q g n c q2 g2 c2 : Nat} {bs : List Nat} (w : World) (h : MemAt w q g n c bs) (h2 : RMemAt w q2 g2 n c2 bs) (h0 : 16 ≤ n) (hn : n ≤ 65536) :
  Calls Tryz.prog 116 #[.pointer (some ⟨q, 0, none⟩), .pointer (some ⟨q2, 0, none⟩)] w fun e w' => e = .returned (.bool true) ∧ Fr no w w' := by
 have H := Lib.hid h
 have K := Lib.hid h2
 have HL := Lib.hid h.len
 obtain ⟨V, hV⟩ : ∃ V, V = Value.slice (if c2 = 16 then some ⟨g2, 0, none⟩ else (some (⟨g2, 0, none⟩ : Addr)).map (·.add (16 * 1))) (n - 16) (c2 - 16) := ⟨_, rfl⟩
 have hcut : ∀ w, (Go.Instr.slice 22 (.slice (some ⟨g2, 0, none⟩) n c2) (some (.int .i64 16)) none none).run Tryz.prog w = .ok V w := fun w => by rw [hV]; exact run_cut (n := n) (a := 16) _ h0 w
 have HR : Hid (∀ w', Fr no w w' → Reads w' V 1 (bs.drop 16).length (u8s (bs.drop 16))) := Lib.hid (fun w' r => by
  have := reads_from (a := 16) ((K.out.fr r).reads) h0
  rw [List.length_drop, HL.out, hV]
  exact this)
 have hws : IntKind.i64.wrap ((n : Int) - 16) = ((n - 16 : Nat) : Int) := by rw [IntKind.wrap_i64]; omega
 clear h h2 hV
 go_enter Tryz.func116, Tryz.ntmps116
 go_upto_region 1 with (fail)
 have R1 := Lib.hid (Fr.refl no w).drew
 have S1 : Hid ((fun w' : World => w'.cell? ⟨q2, 0, none⟩ = some (.slice (some ⟨g2, 0, none⟩) n c2)) w.drew) := Lib.hid (cell_of_heap (w := w.drew) K.out.obj rfl)
 refine Lex.region [1] [8] (by kernel_rfl) (by kernel_rfl) ?_
 refine Lex.opens (fun w' => w'.cell? ⟨q2, 0, none⟩ = some (.slice (some ⟨g2, 0, none⟩) n c2)) (S1.out) ?_
 repeat ((first | refine Lex.skips (by rfl) ?_ | (refine Lex.quiet (v := ?_) (by rfl) (by rfl) ?_ ?_; rotate_left; focus (intro w' hS'; go_simp; try rfl))); try simp only [Act.put, List.setIfInBounds_toArray, List.set_cons_zero, List.set_cons_succ])
 refine Lex.loud (by rfl) (by rfl) ?_
 intro K' hK'
 go_simp
 refine (msize_ok w.drew (H.out.fr R1.out)).mono ?_
 rintro e w' ⟨rfl, rfl⟩
 refine hK' _ _ (S1.out) ?_
 clear hK'
 try simp only [Act.put, List.setIfInBounds_toArray, List.set_cons_zero, List.set_cons_succ]
 repeat ((first | refine Lex.skips (by rfl) ?_ | (refine Lex.quiet (v := ?_) (by rfl) (by rfl) ?_ ?_; rotate_left; focus (intro w' hS'; go_simp; try rfl))); try simp only [Act.put, List.setIfInBounds_toArray, List.set_cons_zero, List.set_cons_succ])
 refine Lex.done ?_
 refine Lex.ends ?_
 have HB := Lib.hid (bytes_ok w.drew 16 (n - 16) (H.out.fr R1.out) (by decide) (by omega) hn (by simp only [inB, decide_eq_true_eq]; omega))
 have c0 := S1.out
 go_wp2_with fail
 refine HB.out.mono ?_
 rintro e w2 ⟨x, rfl, hx, r2⟩
 obtain ⟨xa, xc, rfl⟩ := owns_shape hx
 have R2 := Lib.hid (R1.out.trans r2)
 have HX : Hid (Reads w2 (.slice xa (n - 16) xc) 1 (bs.drop 16).length (u8s (bs.drop 16))) := Lib.hid (by
  have := owns_reads hx
  rw [List.take_of_length_le (by rw [List.length_drop, HL.out]; exact Nat.le_refl _)] at this
  rw [List.length_drop, HL.out]
  exact this)
 clear hx r2 c0
 have c0 : w2.cell? ⟨q2, 0, none⟩ = some (.slice (some ⟨g2, 0, none⟩) n c2) := cell_of_heap (R2.out.heap K.out.obj (by simp)) rfl
 go_wp2_with fail
 refine (samebytes_ok w2 _ _ (bs.drop 16) (bs.drop 16) HX.out (HR.out _ R2.out) (fun x hx => H.out.lt x (List.mem_of_mem_drop hx)) (fun x hx => H.out.lt x (List.mem_of_mem_drop hx))).mono ?_
 rintro e w' ⟨rfl, rfl⟩
 rw [decide_eq_true rfl]
 go_wp2_with fail
 go_ret
 exact ⟨rfl, R2.out⟩
set_option maxHeartbeats 8000000 in
theorem alike_ok (w : World) (h : SpAt w O R p s z) (k : RSpAt w O2 R2 q s y) (hd : s.ds.length ≤ 100000) :
  Calls Tryz.prog 51 #[.pointer (some ⟨p, 0, none⟩), .pointer (some ⟨q, 0, none⟩)] w fun e w' => e = .returned (.bool true) ∧ Fr no w w' := by
 have H := Lib.hid h
 have K := Lib.hid k
 obtain ⟨ib, n2, ic2, b, kb, kn2, kc2, hn2, hb, hkn2, hrd2, hlk2, hcq⟩ := k.cells
 have CQ := Lib.hid hcq
 have HDS := Lib.hid hd
 have HKN := Lib.hid hkn2
 obtain ⟨e1, he1⟩ : ∃ e1, s.e.1 = e1 := ⟨_, rfl⟩
 obtain ⟨e2, he2⟩ : ∃ e2, s.e.2 = e2 := ⟨_, rfl⟩
 have HE := Lib.hid (And.intro he1 he2)
 have HS1 := Lib.hid (fun w' (r : Fr no w w') => send_ok w' (h.fr r))
 have HS2 := Lib.hid (fun w' (r : Fr no w w') => rend_ok w' (k.fr r))
 rw [he1, he2] at HS1 HS2
 clear h k hd hn2 hb hkn2 hrd2 hlk2 hcq he1 he2
 have R0 := Lib.hid (Fr.refl no w)
 go_enter Tryz.func51, Tryz.ntmps51
 go_wp2_with fail
 refine (HS1.out _ R0.out).mono ?_
 rintro e w1 ⟨rfl, r1⟩
 have q2 := (Fr.refl no w1).alloc (.cells #[.int .i64 e1, .int .i64 e2] 43)
 have B2 := Lib.hid (heap_new w1 (.cells #[.int .i64 e1, .int .i64 e2] 43))
 have R2 := Lib.hid (r1.trans q2)
 clear r1 q2
 go_wp2_with fail
 generalize w1.alloc (.cells #[.int .i64 e1, .int .i64 e2] 43) = w2 at *
 refine (HS2.out _ R2.out).mono ?_
 rintro e w3 ⟨rfl, r3⟩
 have q4 := (Fr.refl no w3).alloc (.cells #[.int .i64 e1, .int .i64 e2] 43)
 have B4 := Lib.hid (heap_new w3 (.cells #[.int .i64 e1, .int .i64 e2] 43))
 have B24 := Lib.hid ((r3.trans q4).heap B2.out (by simp))
 have R4 := Lib.hid (R2.out.trans (r3.trans q4))
 clear r3 q4
 go_wp2_with fail
 generalize w3.alloc (.cells #[.int .i64 e1, .int .i64 e2] 43) = w4 at *
 refine (smemory_ok w4 (H.out.fr R4.out)).mono ?_
 rintro e w' ⟨rfl, rfl⟩
 go_upto_region 4 with (fail)
 have SS : Hid (∀ w', Fr no w4 w' → (fun w' : World => w'.cell? ⟨q, 2, none⟩ = some (.pointer (some ⟨y.q, 0, none⟩)) ∧ At w' w1.heap.size 0 [.int .i64 e1, .int .i64 e2] ∧ At w' w3.heap.size 0 [.int .i64 e1, .int .i64 e2] ∧ w'.cell? ⟨q, 4, none⟩ = some (.int .i64 s.fuel) ∧ w'.cell? ⟨q, 5, none⟩ = some (.int .i64 s.f) ∧ w'.cell? ⟨q, 6, none⟩ = some (.int .u64 s.at_) ∧ w'.cell? ⟨q, 7, none⟩ = some (.int .i64 s.pc) ∧ w'.cell? ⟨q, 8, none⟩ = some (.slice kb kn2 kc2)) w') := Lib.hid (fun w' r => by
  obtain ⟨d0, d1, d2, d3, d4, d5, d6, d7, d8, u0, u1⟩ := CQ.out _ (R4.out.trans r)
  exact ⟨d2, At.of_heap (r.heap B24.out (by simp)), At.of_heap (r.heap B4.out (by simp)), d4, d5, d6, d7, d8⟩)
 have R5 := Lib.hid (R4.out.trans (Fr.refl no w4).drew)
 have Q5 := Lib.hid ((Fr.refl no w4).drew)
 have S5 := Lib.hid (SS.out _ Q5.out)
 have H5 := Lib.hid (H.out.fr R5.out)
 have K5 := Lib.hid (K.out.fr R5.out)
 refine Lex.region [8, 22, 31, 40, 49, 58, 68, 70, 71] [74] (by kernel_rfl) (by kernel_rfl) ?_
 refine Lex.opens (fun w' : World => w'.cell? ⟨q, 2, none⟩ = some (.pointer (some ⟨y.q, 0, none⟩)) ∧ At w' w1.heap.size 0 [.int .i64 e1, .int .i64 e2] ∧ At w' w3.heap.size 0 [.int .i64 e1, .int .i64 e2] ∧ w'.cell? ⟨q, 4, none⟩ = some (.int .i64 s.fuel) ∧ w'.cell? ⟨q, 5, none⟩ = some (.int .i64 s.f) ∧ w'.cell? ⟨q, 6, none⟩ = some (.int .u64 s.at_) ∧ w'.cell? ⟨q, 7, none⟩ = some (.int .i64 s.pc) ∧ w'.cell? ⟨q, 8, none⟩ = some (.slice kb kn2 kc2)) (S5.out) ?_
 repeat ((first | refine Lex.skips (by rfl) ?_ | (refine Lex.into (by rfl) (by rfl) _ _ rfl _ _ rfl _ _ ((fun _ h => h.2.1)) Tryz.underlying43 rfl (by rw [Tryz.infoEnd]; rfl) ?_) | (refine Lex.quiet (v := ?_) (by rfl) (by rfl) ?_ ?_; rotate_left; focus (intro w' hS'; go_simp; try rfl))); try simp only [Act.put, List.setIfInBounds_toArray, List.set_cons_zero, List.set_cons_succ])
 refine Lex.loud (by rfl) (by rfl) ?_
 intro K' hK'
 go_simp
 refine (malike_ok _ H5.out.mem K5.out.mem (by have := H.out.ok.al; have := H.out.ok.lo; have := flr_ge s.m; omega) H.out.ok.bl).mono ?_
 rintro e w5 ⟨rfl, r5⟩
 have Q6 := Lib.hid (Q5.out.trans r5)
 have R6 := Lib.hid (R4.out.trans Q6.out)
 have S6 := Lib.hid (SS.out _ Q6.out)
 have H6 := Lib.hid (H.out.fr R6.out)
 clear r5
 refine hK' _ _ (S6.out) ?_
 clear hK'
 try simp only [Act.put, List.setIfInBounds_toArray, List.set_cons_zero, List.set_cons_succ]
 repeat ((first | refine Lex.skips (by rfl) ?_ | (refine Lex.into (by rfl) (by rfl) _ _ rfl _ _ rfl _ _ ((fun _ h => h.2.1)) Tryz.underlying43 rfl (by rw [Tryz.infoEnd]; rfl) ?_) | (refine Lex.into (by rfl) (by rfl) _ _ rfl _ _ rfl _ _ ((fun _ h => h.2.2.1)) Tryz.underlying43 rfl (by rw [Tryz.infoEnd]; rfl) ?_) | (refine Lex.quiet (v := ?_) (by rfl) (by rfl) ?_ ?_; rotate_left; focus (intro w' hS'; go_simp; try rfl))); try simp only [Act.put, List.setIfInBounds_toArray, List.set_cons_zero, List.set_cons_succ])
 refine Lex.loud (by rfl) (by rfl) ?_
 intro K' hK'
 go_simp
 refine (sfunc_ok _ H6.out).mono ?_
 rintro e w' ⟨rfl, rfl⟩
 refine hK' _ _ (S6.out) ?_
 clear hK'
 try simp only [Act.put, List.setIfInBounds_toArray, List.set_cons_zero, List.set_cons_succ]
 repeat ((first | refine Lex.skips (by rfl) ?_ | (refine Lex.quiet (v := ?_) (by rfl) (by rfl) ?_ ?_; rotate_left; focus (intro w' hS'; go_simp; try rfl))); try simp only [Act.put, List.setIfInBounds_toArray, List.set_cons_zero, List.set_cons_succ])
 refine Lex.loud (by rfl) (by rfl) ?_
 intro K' hK'
 go_simp
 refine (splace2_ok _ H6.out).mono ?_
 rintro e w' ⟨rfl, rfl⟩
 refine hK' _ _ (S6.out) ?_
 clear hK'
 try simp only [Act.put, List.setIfInBounds_toArray, List.set_cons_zero, List.set_cons_succ]
 repeat ((first | refine Lex.skips (by rfl) ?_ | (refine Lex.quiet (v := ?_) (by rfl) (by rfl) ?_ ?_; rotate_left; focus (intro w' hS'; go_simp; try rfl))); try simp only [Act.put, List.setIfInBounds_toArray, List.set_cons_zero, List.set_cons_succ])
 refine Lex.loud (by rfl) (by rfl) ?_
 intro K' hK'
 go_simp
 refine (sat_ok _ H6.out).mono ?_
 rintro e w' ⟨rfl, rfl⟩
 refine hK' _ _ (S6.out) ?_
 clear hK'
 try simp only [Act.put, List.setIfInBounds_toArray, List.set_cons_zero, List.set_cons_succ]
 repeat ((first | refine Lex.skips (by rfl) ?_ | (refine Lex.quiet (v := ?_) (by rfl) (by rfl) ?_ ?_; rotate_left; focus (intro w' hS'; go_simp; try rfl))); try simp only [Act.put, List.setIfInBounds_toArray, List.set_cons_zero, List.set_cons_succ])
 refine Lex.loud (by rfl) (by rfl) ?_
 intro K' hK'
 go_simp
 refine (sfuel_ok _ H6.out).mono ?_
 rintro e w' ⟨rfl, rfl⟩
 refine hK' _ _ (S6.out) ?_
 clear hK'
 try simp only [Act.put, List.setIfInBounds_toArray, List.set_cons_zero, List.set_cons_succ]
 repeat ((first | refine Lex.skips (by rfl) ?_ | (refine Lex.quiet (v := ?_) (by rfl) (by rfl) ?_ ?_; rotate_left; focus (intro w' hS'; go_simp; try rfl))); try simp only [Act.put, List.setIfInBounds_toArray, List.set_cons_zero, List.set_cons_succ])
 refine Lex.loud (by rfl) (by rfl) ?_
 intro K' hK'
 go_simp
 refine (sdepth_ok _ H6.out).mono ?_
 rintro e w' ⟨rfl, rfl⟩
 rw [HKN.out]
 refine hK' _ _ (S6.out) ?_
 clear hK'
 try simp only [Act.put, List.setIfInBounds_toArray, List.set_cons_zero, List.set_cons_succ]
 repeat ((first | refine Lex.skips (by rfl) ?_ | (refine Lex.quiet (v := ?_) (by rfl) (by rfl) ?_ ?_; rotate_left; focus (intro w' hS'; go_simp; try rfl))); try simp only [Act.put, List.setIfInBounds_toArray, List.set_cons_zero, List.set_cons_succ])
 refine Lex.loud (by rfl) (by rfl) ?_
 intro K' hK'
 go_simp
 refine (sout_ok _ H6.out (by have := HDS.out; omega)).mono ?_
 rintro e w6 ⟨x1, rfl, hx1, r6⟩
 have Q7 := Lib.hid (Q6.out.trans r6)
 have R7 := Lib.hid (R4.out.trans Q7.out)
 have S7 := Lib.hid (SS.out _ Q7.out)
 have HX1 := Lib.hid (owns_reads hx1)
 clear hx1 r6
 refine hK' _ _ (S7.out) ?_
 clear hK'
 try simp only [Act.put, List.setIfInBounds_toArray, List.set_cons_zero, List.set_cons_succ]
 repeat ((first | refine Lex.skips (by rfl) ?_ | (refine Lex.quiet (v := ?_) (by rfl) (by rfl) ?_ ?_; rotate_left; focus (intro w' hS'; go_simp; try rfl))); try simp only [Act.put, List.setIfInBounds_toArray, List.set_cons_zero, List.set_cons_succ])
 refine Lex.loud (by rfl) (by rfl) ?_
 intro K' hK'
 go_simp
 refine (rout_ok w6 (K.out.fr R7.out) (by have := HDS.out; omega)).mono ?_
 rintro e w7 ⟨x2, rfl, hx2, r7⟩
 have Q8 := Lib.hid (Q7.out.trans r7)
 have R8 := Lib.hid (R4.out.trans Q8.out)
 have S8 := Lib.hid (SS.out _ Q8.out)
 have HX2 := Lib.hid (owns_reads hx2)
 have HX1' := Lib.hid (HX1.out.fr r7 (by simp))
 clear hx2 r7
 refine hK' _ _ (S8.out) ?_
 clear hK'
 try simp only [Act.put, List.setIfInBounds_toArray, List.set_cons_zero, List.set_cons_succ]
 repeat ((first | refine Lex.skips (by rfl) ?_ | (refine Lex.quiet (v := ?_) (by rfl) (by rfl) ?_ ?_; rotate_left; focus (intro w' hS'; go_simp; try rfl))); try simp only [Act.put, List.setIfInBounds_toArray, List.set_cons_zero, List.set_cons_succ])
 refine Lex.loud (by rfl) (by rfl) ?_
 intro K' hK'
 go_simp
 refine (refsameo_ok w7 x1 x2 s.ds s.ds s.e.1 s.e.2 s.e.1 s.e.2 HX1'.out HX2.out (by have := HDS.out; omega) (by have := HDS.out; omega)).mono ?_
 rintro e w8 ⟨rfl, r8⟩
 have HSO : Hid (sameO s.ds s.ds (s.e.1, s.e.2) (s.e.1, s.e.2) = true) := Lib.hid (by simp [sameO])
 rw [HSO.out]
 have Q9 := Lib.hid (Q8.out.trans r8)
 have R9 := Lib.hid (R4.out.trans Q9.out)
 have S9 := Lib.hid (SS.out _ Q9.out)
 clear r8
 refine hK' _ _ (S9.out) ?_
 clear hK'
 try simp only [Act.put, List.setIfInBounds_toArray, List.set_cons_zero, List.set_cons_succ]
 repeat ((first | refine Lex.skips (by rfl) ?_ | (refine Lex.quiet (v := ?_) (by rfl) (by rfl) ?_ ?_; rotate_left; focus (intro w' hS'; go_simp; try rfl))); try simp only [Act.put, List.setIfInBounds_toArray, List.set_cons_zero, List.set_cons_succ])
 refine Lex.done ?_
 refine Lex.ends ?_
 go_wp2_with fail
 go_ret
 exact ⟨by first | rfl | simp, R9.out⟩

end Go.Proofs.YtihnkijeefkefaaGreat

set_option linter.unusedSimpArgs false
set_option linter.unusedVariables false
set_option linter.unusedSectionVars false
set_option linter.unnecessarySimpa false
set_option maxRecDepth 100000
/- SpaceScript. -/
namespace Go.Proofs.YtihnkijeefkefaaGreat
open Go.RowKit

attribute [local go_sem] Program.isFuncB Program.isSliceB

variable {w w' w'' w0 w1 : World} {O R X : Nat → Prop} {p q : Nat} {s s' t t' : Zp} {B : (Nat → Prop) → (Nat → Prop) → World → Prop}

theorem Held.copyP (h : Held w0 w (PrT p q s) X) (hd : s.ds.length ≤ 1000000) : Calls Tryz.prog 45 #[.pointer (some ⟨p, 0, none⟩)] w fun e w' => ∃ k, e = .returned (.pointer (some ⟨k, 0, none⟩)) ∧ Held w0 w' (Both (PrT p q s) (SpT k s)) X ∧ Fr no w w' := by
 obtain ⟨O, R, hb, hO, r0, hX, hRX⟩ := h
 have lb := (prT p q s).lt _ _ _ hb
 have hb0 := hb
 obtain ⟨O1, R1, O2, R2, ⟨z, h1⟩, ⟨y, h2⟩, d1, d2, eO, eR⟩ := hb
 refine (scopy_ok w h1 hd).mono ?_
 rintro e w' ⟨k, O', R', z', rfl, hq, hO', hR', r⟩
 have hOl : ∀ i, O i → i < w.heap.size := fun i hi => lb i (.inl hi)
 have hRl : ∀ i, R i → i < w.heap.size := fun i hi => lb i (.inr hi)
 refine ⟨k, rfl, ⟨fun i => O i ∨ O' i, fun i => R i ∨ R' i, ⟨O, R, O', R', (prT p q s).fr _ _ _ _ _ hb0 r (fun i hi => hi.elim), ⟨z', hq⟩, fun i hi => ⟨fun ho => ?_, fun hr => ?_⟩, fun i hi hr => ?_, fun i => Iff.rfl, fun i => Iff.rfl⟩, fun i hi => ?_, r0.trans r, fun i hi => Nat.lt_of_lt_of_le (hX i hi) r.size, fun i hi hx => ?_⟩, r⟩
 ·have := hOl i hi; have := hO' i ho; omega
 ·rcases hR' i hr with e | e
  ·rcases (eO i).1 hi with h | h
   ·exact h1.dis i h e
   ·exact d2 i h e
  ·have := hOl i hi; omega
 ·have := hRl i hr; have := hO' i hi; omega
 ·rcases hi with hi | hi
  ·exact hO i hi
  ·have := hO' i hi
   exact ⟨Nat.le_trans r0.size this, fun hx => by have := hX i hx; omega⟩
 ·have h3 := hX i hx
  rcases hi with hi | hi
  ·exact hRX i hi hx
  ·rcases hR' i hi with e | e
   ·exact hRX i ((eR i).2 (.inl e)) hx
   ·omega
theorem Held.copyQ (h : Held w0 w (PrT p q s) X) (hd : s.ds.length ≤ 1000000) : Calls Tryz.prog 45 #[.pointer (some ⟨p, 0, none⟩)] w fun e w' => ∃ k, e = .returned (.pointer (some ⟨k, 0, none⟩)) ∧ Held w0 w' (PrT k q s) X ∧ Fr no w w' := by
 refine (h.copyP hd).mono ?_
 rintro e w' ⟨k, rfl, hh, r⟩
 refine ⟨k, rfl, ?_, r⟩
 obtain ⟨O, R, hb, hO, r0, hX, hRX⟩ := hh
 obtain ⟨O12, R12, O3, R3, ⟨O1, R1, O2, R2, h1, h2, d1, d2, e1, e2⟩, h3, d3, d4, e3, e4⟩ := hb
 refine ⟨fun i => O3 i ∨ O2 i, fun i => R3 i ∨ R2 i, ⟨O3, R3, O2, R2, h3, h2, fun i hi => ⟨fun ho => (d3 i ((e1 i).2 (.inr ho))).1 hi, fun hr => d4 i hi ((e2 i).2 (.inr hr))⟩, fun i hi => (d3 i ((e1 i).2 (.inr hi))).2, fun i => Iff.rfl, fun i => Iff.rfl⟩, fun i hi => hO i ((e3 i).2 ?_), r0, hX, fun i hi => hRX i ((e4 i).2 ?_)⟩
 ·exact hi.elim .inr (fun h => .inl ((e1 i).2 (.inr h)))
 ·exact hi.elim .inr (fun h => .inl ((e2 i).2 (.inr h)))
theorem Held.drop (h : Held w0 w (Both (PrT p q s) B) X) : Held w0 w (PrT p q s) X := by
 obtain ⟨O, R, hb, hO, r0, hX, hRX⟩ := h
 obtain ⟨O1, R1, O2, R2, h1, h2, d1, d2, e1, e2⟩ := hb
 exact ⟨O1, R1, h1, fun i hi => hO i ((e1 i).2 (.inl hi)), r0, hX, fun i hi => hRX i ((e2 i).2 (.inl hi))⟩
theorem at_eight {b o : Nat} {a0 a1 a2 a3 a4 a5 a6 a7 : Value} (h : At w b o [a0, a1, a2, a3, a4, a5, a6, a7]) :
  w.cell? ⟨b, o, none⟩ = some a0 ∧ w.cell? ⟨b, o + 1, none⟩ = some a1 ∧ w.cell? ⟨b, o + 2, none⟩ = some a2 ∧ w.cell? ⟨b, o + 3, none⟩ = some a3 ∧ w.cell? ⟨b, o + 4, none⟩ = some a4 ∧ w.cell? ⟨b, o + 5, none⟩ = some a5 ∧ w.cell? ⟨b, o + 6, none⟩ = some a6 ∧ w.cell? ⟨b, o + 7, none⟩ = some a7 :=
 ⟨h 0 _ rfl, h 1 _ rfl, h 2 _ rfl, h 3 _ rfl, h 4 _ rfl, h 5 _ rfl, h 6 _ rfl, h 7 _ rfl⟩
attribute [local irreducible] Zp.callS Zp.layS Zp.down Zp.argsS newS Zp.actS sameS
set_option maxHeartbeats 16000000 in
theorem script15_ok (w : World) (m : Mx) (da : Option Addr) (dc : Nat) (fa : Option Addr) (fc : Nat) (mem : Int) (ia : Option Addr) (ic : Nat) (inp : List Nat) (fuel : Int) (la : Option Addr) (lc : Nat) (l : List Ax)
  (hm : ModRd w m da dc fa fc) (hraw : m.Raw) (hin : Reads w (.slice ia inp.length ic) 1 inp.length (u8s inp)) (hib : ∀ x ∈ inp, x < 256) (hil : inp.length ≤ maxLen) (hl : ActsIn w la l) (hll : l.length ≤ maxLen) :
  Calls Tryz.prog 9 #[.agg #[.slice da m.d.length dc, .slice fa m.f.length fc], .int .i64 mem, .slice ia inp.length ic, .int .i64 fuel, .slice la l.length lc] w fun e w' => e = .returned (.bool true) ∧ Fr no w w' := by
 have r1 := (Fr.refl no w).alloc (.cells #[.slice da m.d.length dc, .slice fa m.f.length fc] 25)
 have hb1 := heap_new w (.cells #[.slice da m.d.length dc, .slice fa m.f.length fc] 25)
 have R1 := Lib.hid r1
 have HM1 := Lib.hid hb1
 have HM := Lib.hid hm
 have HL := Lib.hid hl
 have HIN := Lib.hid hin
 have HIB := Lib.hid hib
 have HRAW := Lib.hid hraw
 have HLL := Lib.hid hll
 unfold maxLen at hil
 have m0 := cell_of_heap (o := 0) HM1.out rfl
 have m1 := cell_of_heap (o := 1) HM1.out rfl
 clear r1 hb1 hm hl hin hib hraw hll
 go_enter Tryz.func9, Tryz.ntmps9
 go_wp2_with fail
 refine (longm_ok _ m da dc fa fc (HM.out.fr R1.out).modIn HRAW.out).mono ?_
 rintro e w2 ⟨q, rfl, hq, r2⟩
 have R2 := Lib.hid (R1.out.trans r2)
 have HM2 := Lib.hid (r2.heap HM1.out (by simp))
 clear r2 m0 m1
 cases q
 case true =>
  clear hq
  go_wp2_with fail
  refine (awake15_ok _).mono ?_
  rintro e wz ⟨rfl, rz⟩
  have RZ := Lib.hid (R2.out.trans rz)
  clear rz
  go_wp2_with fail
  go_ret
  exact ⟨rfl, RZ.out⟩
 have HFM := Lib.hid (hq rfl)
 clear hq
 have HSM : Hid m.Small := Lib.hid (LongM.small HRAW.out HFM.out)
 by_cases hi1 : inp.length > 100
 ·have hi1' : (inp.length : Int) > 100 := by omega
  go_wp2_with fail
  refine (awake15_ok _).mono ?_
  rintro e wz ⟨rfl, rz⟩
  have RZ := Lib.hid (R2.out.trans rz)
  clear rz
  go_wp2_with fail
  go_ret
  exact ⟨rfl, RZ.out⟩
 have hi1' : ¬ (inp.length : Int) > 100 := by omega
 go_wp2_with fail
 refine (long15_ok w2 la lc l (HL.out.fr R2.out) HLL.out).mono ?_
 rintro e w3 ⟨rfl, r3⟩
 have R3 := Lib.hid (R2.out.trans r3)
 have HM3 := Lib.hid (r3.heap HM2.out (by simp))
 clear r3
 cases hlg : longA l
 case true =>
  clear hlg
  go_wp2_with fail
  refine (awake15_ok _).mono ?_
  rintro e wz ⟨rfl, rz⟩
  have RZ := Lib.hid (R3.out.trans rz)
  clear rz
  go_wp2_with fail
  go_ret
  exact ⟨rfl, RZ.out⟩
 have HLA := Lib.hid (longA_false hlg)
 clear hlg
 have hil2 : inp.length ≤ 100000 := by omega
 have m0 := cell_of_heap (o := 0) HM3.out rfl
 have m1 := cell_of_heap (o := 1) HM3.out rfl
 go_upto_region 3 with (fail)
 go_wp2_with fail
 refine (copymodn_ok w3 m da dc fa fc (HM.out.fr R3.out).modIn HSM.out).mono ?_
 rintro e w4 ⟨xa, xc, oa, oc, rfl, ⟨how, hnu⟩, r4⟩
 have R4 := Lib.hid (R3.out.trans r4)
 have HM4 := Lib.hid (r4.heap HM3.out (by simp))
 have HOW4 := Lib.hid how
 have HNU4 := Lib.hid hnu
 have HXW : Hid (∀ k, (Value.slice xa m.d.length xc).ownBlock = some k → k < w4.heap.size) := Lib.hid (fun k hk => (how.data.lt k hk).2)
 clear r4 how hnu m0 m1
 go_wp2_with fail
 refine (lentbytes_ok w4 _ inp (HIN.out.fr R4.out (by simp)) hil2).mono ?_
 rintro e w5 ⟨lv, rfl, hlv, r5⟩
 obtain ⟨lva, lvc, rfl⟩ := hlv.reads.1.shape
 have q6 := (Fr.refl no w5).alloc (.cells #[.slice xa m.d.length xc, .slice oa m.f.length oc] 25)
 have HO6 := Lib.hid (heap_new w5 (.cells #[.slice xa m.d.length xc, .slice oa m.f.length oc] 25))
 have r46 := r5.trans q6
 have R6 := Lib.hid (R4.out.trans r46)
 have HM6 := Lib.hid (r46.heap HM4.out (by simp))
 have HLV6 := Lib.hid (hlv.fr q6)
 have HOW6 := Lib.hid (HOW4.out.low r46 (fun k hk => hk.elim))
 have HNU6 := Lib.hid (HNU4.out.fr r46 (fun g hg => (HOW4.out.data.lt g hg).2))
 have SB : Hid (w.heap.size ≤ w3.heap.size ∧ w.heap.size ≤ w4.heap.size) := Lib.hid ⟨R3.out.size, R4.out.size⟩
 clear r5 q6 r46 hlv HOW4 HNU4 HM4
 go_wp2_with fail
 generalize w5.alloc (.cells #[.slice xa m.d.length xc, .slice oa m.f.length oc] 25) = w6 at *
 have HOR := Lib.hid HOW6.out.rd
 have HXL : Hid (∀ k, (Value.slice xa m.d.length xc).ownBlock = some k → k < w4.heap.size) := Lib.hid (HXW.out)
 have m0 := cell_of_heap (o := 0) HM6.out rfl
 have m1 := cell_of_heap (o := 1) HM6.out rfl
 have o0 := cell_of_heap (o := 0) HO6.out rfl
 have o1 := cell_of_heap (o := 1) HO6.out rfl
 by_cases hb : newBad m mem fuel
 case pos =>
  refine (snew_bad (inp := inp) (ia := lva) (ic := lvc) w6 HOR.out HSM.out hb).mono ?_
  rintro e w7 ⟨rfl, r7⟩
  have R7 := Lib.hid (R6.out.trans r7)
  have Q7 := Lib.hid r7
  have HM7 := Lib.hid (r7.heap HM6.out (by simp))
  clear r7 m0 m1 o0 o1
  have m0 := cell_of_heap (o := 0) HM7.out rfl
  have m1 := cell_of_heap (o := 1) HM7.out rfl
  go_wp2_with fail
  refine (rsnew_bad (inp := inp) (ia := ia) (ic := ic) w7 (HM.out.fr R7.out) HSM.out hb).mono ?_
  rintro e w8 ⟨rfl, r8⟩
  have R8 := Lib.hid (R7.out.trans r8)
  have Q8 := Lib.hid (Q7.out.trans r8)
  have HM8 := Lib.hid (r8.heap HM7.out (by simp))
  have HO8 := Lib.hid (Q8.out.heap HO6.out (by simp))
  clear r8 m0 m1
  have m0 := cell_of_heap (o := 0) HM8.out rfl
  have m1 := cell_of_heap (o := 1) HM8.out rfl
  have o0 := cell_of_heap (o := 0) HO8.out rfl
  have o1 := cell_of_heap (o := 1) HO8.out rfl
  go_wp2_with fail
  refine (kitsame_ok w8 m m xa oa da fa xc oc dc fc (HOW6.out.low Q8.out (fun k hk => hk.elim)).modIn (HM.out.fr R8.out).modIn HSM.out HSM.out).mono ?_
  rintro e w9 ⟨rfl, r9⟩
  rw [decide_eq_true rfl]
  have R9 := Lib.hid (R8.out.trans r9)
  have Q9 := Lib.hid (Q8.out.trans r9)
  clear r9
  go_wp2_with fail
  refine (keptbytes_ok w9 _ _ _ inp (HLV6.out.fr Q9.out) (HIN.out.fr R9.out (by simp)) HIB.out hil2).mono ?_
  rintro e w10 ⟨rfl, r10⟩
  have R10 := Lib.hid (R9.out.trans r10)
  have Q10 := Lib.hid (Q9.out.trans r10)
  have HO10 := Lib.hid (Q10.out.heap HO6.out (by simp))
  clear r10 m0 m1 o0 o1
  go_wp2_with fail
  refine (overlent_ok w10 _ _ inp (HLV6.out.fr Q10.out) hil2).mono ?_
  rintro e w11 ⟨rfl, r11⟩
  have LB : Hid (∀ k, (Value.slice lva inp.length lvc).ownBlock = some k → w.heap.size ≤ k ∧ k < w6.heap.size ∧ w4.heap.size ≤ k) := Lib.hid (fun k hk => by
   obtain ⟨g, c, h1, h2, -, cur, h4, -⟩ := HLV6.out.row
   have h5 := SB.out.2
   have h6 := (Array.getElem?_eq_some_iff.1 h4).1
   rw [h1] at hk
   have hk : g = k := by simpa [Value.ownBlock] using hk
   omega)
  have R11 := Lib.hid (R10.out.trans' r11 (fun k hk _ => (LB.out k hk).1))
  have HO11 := Lib.hid (r11.heap HO10.out (fun hk => by
   obtain ⟨g, c, h1, h2, -, cur, h4, -⟩ := HLV6.out.row
   rw [h1] at hk
   have hk : g = w5.heap.size := by simpa [Value.ownBlock] using hk
   subst hk
   exact block_ne h4 HO6.out (by decide) rfl))
  have HD11 := Lib.hid (owns_fr (HOW6.out.low Q10.out (fun k hk => hk.elim)).data r11 (fun k hk hs => by have h1 := (LB.out k hs).2.2; have h2 := HXL.out k hk; omega))
  have HNU11 := Lib.hid ((HNU6.out.fr Q10.out (fun g hg => (HOW6.out.data.lt g hg).2)).frx r11 (fun g hg => (((HOW6.out.low Q10.out (fun k hk => hk.elim)).data.lt g hg).2)) (fun k hk hs => by have h1 := (LB.out k hs).2.2; have h2 := HXL.out k hk; omega))
  clear r11
  have o0 := cell_of_heap (o := 0) HO11.out rfl
  have o1 := cell_of_heap (o := 1) HO11.out rfl
  go_wp2_with fail
  refine (overbytes_ok w11 _ _ _ _ HD11.out HNU11.out).mono ?_
  rintro e w12 ⟨rfl, r12⟩
  have XB : Hid (∀ k, (Value.slice xa m.d.length xc).ownBlock = some k → w.heap.size ≤ k ∧ k < w6.heap.size) := Lib.hid (fun k hk => ⟨by have := (HOW6.out.data.lt k hk).1; have := SB.out.1; omega, (HOW6.out.data.lt k hk).2⟩)
  have R12 := Lib.hid (R11.out.trans' r12 (fun k hk _ => (XB.out k hk).1))
  clear r12 o0 o1
  go_wp2_with fail
  refine (awake15_ok _).mono ?_
  rintro e wz ⟨rfl, rz⟩
  have RZ := Lib.hid (R12.out.trans rz)
  clear rz
  go_wp2_with fail
  go_ret
  exact ⟨rfl, RZ.out⟩
 by_cases hfl : mem < flr m
 case pos =>
  refine (snew_full (inp := inp) (ia := lva) (ic := lvc) w6 HOR.out HSM.out HLV6.out.reads.1 hil2 hb hfl).mono ?_
  rintro e w7 ⟨rfl, r7⟩
  have R7 := Lib.hid (R6.out.trans r7)
  have Q7 := Lib.hid r7
  have HM7 := Lib.hid (r7.heap HM6.out (by simp))
  clear r7 m0 m1 o0 o1
  have m0 := cell_of_heap (o := 0) HM7.out rfl
  have m1 := cell_of_heap (o := 1) HM7.out rfl
  go_wp2_with fail
  refine (rsnew_full (inp := inp) (ia := ia) (ic := ic) w7 (HM.out.fr R7.out) HSM.out hb hfl).mono ?_
  rintro e w8 ⟨rfl, r8⟩
  have R8 := Lib.hid (R7.out.trans r8)
  have Q8 := Lib.hid (Q7.out.trans r8)
  have HM8 := Lib.hid (r8.heap HM7.out (by simp))
  have HO8 := Lib.hid (Q8.out.heap HO6.out (by simp))
  clear r8 m0 m1
  have m0 := cell_of_heap (o := 0) HM8.out rfl
  have m1 := cell_of_heap (o := 1) HM8.out rfl
  have o0 := cell_of_heap (o := 0) HO8.out rfl
  have o1 := cell_of_heap (o := 1) HO8.out rfl
  go_wp2_with fail
  refine (kitsame_ok w8 m m xa oa da fa xc oc dc fc (HOW6.out.low Q8.out (fun k hk => hk.elim)).modIn (HM.out.fr R8.out).modIn HSM.out HSM.out).mono ?_
  rintro e w9 ⟨rfl, r9⟩
  rw [decide_eq_true rfl]
  have R9 := Lib.hid (R8.out.trans r9)
  have Q9 := Lib.hid (Q8.out.trans r9)
  clear r9
  go_wp2_with fail
  refine (keptbytes_ok w9 _ _ _ inp (HLV6.out.fr Q9.out) (HIN.out.fr R9.out (by simp)) HIB.out hil2).mono ?_
  rintro e w10 ⟨rfl, r10⟩
  have R10 := Lib.hid (R9.out.trans r10)
  have Q10 := Lib.hid (Q9.out.trans r10)
  have HO10 := Lib.hid (Q10.out.heap HO6.out (by simp))
  clear r10 m0 m1 o0 o1
  go_wp2_with fail
  refine (overlent_ok w10 _ _ inp (HLV6.out.fr Q10.out) hil2).mono ?_
  rintro e w11 ⟨rfl, r11⟩
  have LB : Hid (∀ k, (Value.slice lva inp.length lvc).ownBlock = some k → w.heap.size ≤ k ∧ k < w6.heap.size ∧ w4.heap.size ≤ k) := Lib.hid (fun k hk => by
   obtain ⟨g, c, h1, h2, -, cur, h4, -⟩ := HLV6.out.row
   have h5 := SB.out.2
   have h6 := (Array.getElem?_eq_some_iff.1 h4).1
   rw [h1] at hk
   have hk : g = k := by simpa [Value.ownBlock] using hk
   omega)
  have R11 := Lib.hid (R10.out.trans' r11 (fun k hk _ => (LB.out k hk).1))
  have HO11 := Lib.hid (r11.heap HO10.out (fun hk => by
   obtain ⟨g, c, h1, h2, -, cur, h4, -⟩ := HLV6.out.row
   rw [h1] at hk
   have hk : g = w5.heap.size := by simpa [Value.ownBlock] using hk
   subst hk
   exact block_ne h4 HO6.out (by decide) rfl))
  have HD11 := Lib.hid (owns_fr (HOW6.out.low Q10.out (fun k hk => hk.elim)).data r11 (fun k hk hs => by have h1 := (LB.out k hs).2.2; have h2 := HXL.out k hk; omega))
  have HNU11 := Lib.hid ((HNU6.out.fr Q10.out (fun g hg => (HOW6.out.data.lt g hg).2)).frx r11 (fun g hg => (((HOW6.out.low Q10.out (fun k hk => hk.elim)).data.lt g hg).2)) (fun k hk hs => by have h1 := (LB.out k hs).2.2; have h2 := HXL.out k hk; omega))
  clear r11
  have o0 := cell_of_heap (o := 0) HO11.out rfl
  have o1 := cell_of_heap (o := 1) HO11.out rfl
  go_wp2_with fail
  refine (overbytes_ok w11 _ _ _ _ HD11.out HNU11.out).mono ?_
  rintro e w12 ⟨rfl, r12⟩
  have XB : Hid (∀ k, (Value.slice xa m.d.length xc).ownBlock = some k → w.heap.size ≤ k ∧ k < w6.heap.size) := Lib.hid (fun k hk => ⟨by have := (HOW6.out.data.lt k hk).1; have := SB.out.1; omega, (HOW6.out.data.lt k hk).2⟩)
  have R12 := Lib.hid (R11.out.trans' r12 (fun k hk _ => (XB.out k hk).1))
  clear r12 o0 o1
  go_wp2_with fail
  refine (awake15_ok _).mono ?_
  rintro e wz ⟨rfl, rz⟩
  have RZ := Lib.hid (R12.out.trans rz)
  clear rz
  go_wp2_with fail
  go_ret
  exact ⟨rfl, RZ.out⟩
 have hnb : modCk m = 0 ∧ ¬ fuel < 0 ∧ ¬ 10000000 < fuel ∧ ¬ mem < 16 ∧ ¬ 65536 < mem ∧ mem % 16 = 0 := by
  unfold newBad at hb
  refine ⟨Decidable.not_not.1 (fun h => hb (.inl h)), fun h => hb (.inr (.inl h)), fun h => hb (.inr (.inr (.inl h))), fun h => hb (.inr (.inr (.inr (.inl h)))), fun h => hb (.inr (.inr (.inr (.inr (.inl h))))), Decidable.not_not.1 (fun h => hb (.inr (.inr (.inr (.inr (.inr h))))))⟩
 have HBL : Hid ((newS m mem.toNat inp fuel).ds.length = 0) := Lib.hid (by rw [(newS_same m mem.toNat inp fuel).2.2.2.1]; rfl)
 have hfl2 : flr m ≤ mem := by omega
 have HNB := Lib.hid hb
 have HFL := Lib.hid hfl2
 clear hb hfl hnb hfl2
 refine (snew_ok (inp := inp) (ia := lva) (ic := lvc) w6 HOR.out HSM.out HLV6.out.reads.1 hil2 HIB.out HNB.out HFL.out).mono ?_
 rintro e w7 ⟨p, O, R, z, rfl, hsp, hO, hRR, r7⟩
 have R7 := Lib.hid (R6.out.trans r7)
 have Q7 := Lib.hid r7
 have HM7 := Lib.hid (r7.heap HM6.out (by simp))
 have H7 : Hid (Held w w7 (SpT p (newS m mem.toNat inp fuel)) (fun k => w.heap.size ≤ k ∧ k < w6.heap.size)) := Lib.hid ⟨O, R, ⟨z, hsp⟩, fun k hk => ⟨by have := hO k hk; have := R6.out.size; omega, fun hx => by have := hO k hk; omega⟩, R7.out, fun k hk => Nat.lt_of_lt_of_le hk.2 r7.size, fun k hk hx => by have := hRR k hk; omega⟩
 clear r7 hsp hO hRR m0 m1 o0 o1
 have m0 := cell_of_heap (o := 0) HM7.out rfl
 have m1 := cell_of_heap (o := 1) HM7.out rfl
 go_wp2_with fail
 refine (rsnew_ok (inp := inp) (ia := ia) (ic := ic) w7 (HM.out.fr R7.out) HSM.out (HIN.out.fr R7.out (by simp)) hil2 HIB.out (B := w.heap.size) R7.out.size (fun w2 r2 => (HM.out.fr (R7.out.trans' r2 (fun i hi _ => hi))).modIn) HNB.out HFL.out).mono ?_
 rintro e w8 ⟨q, O, R, rfl, hsp, hO, hRR, r8⟩
 have R8 := Lib.hid (R7.out.trans r8)
 have Q8 := Lib.hid (Q7.out.trans r8)
 have HM8 := Lib.hid (r8.heap HM7.out (by simp))
 have HO8 := Lib.hid (Q8.out.heap HO6.out (by simp))
 have H8 : Hid (Held w w8 (PrT p q (newS m mem.toNat inp fuel)) (fun k => w.heap.size ≤ k ∧ k < w6.heap.size)) := Lib.hid (H7.out.add (spT p _) (fun k h => h.1) (B := RSpT q (newS m mem.toNat inp fuel)) hsp r8 hO hRR)
 clear r8 hsp hO hRR m0 m1
 have m0 := cell_of_heap (o := 0) HM8.out rfl
 have m1 := cell_of_heap (o := 1) HM8.out rfl
 have o0 := cell_of_heap (o := 0) HO8.out rfl
 have o1 := cell_of_heap (o := 1) HO8.out rfl
 generalize newS m mem.toNat inp fuel = s0 at *
 go_wp2_with fail
 refine (kitsame_ok w8 m m xa oa da fa xc oc dc fc (HOW6.out.low Q8.out (fun k hk => hk.elim)).modIn (HM.out.fr R8.out).modIn HSM.out HSM.out).mono ?_
 rintro e w9 ⟨rfl, r9⟩
 rw [decide_eq_true rfl]
 have R9 := Lib.hid (R8.out.trans r9)
 have Q9 := Lib.hid (Q8.out.trans r9)
 have H9 := Lib.hid (H8.out.fr (prT p q s0) r9)
 clear r9
 go_wp2_with fail
 refine (keptbytes_ok w9 _ _ _ inp (HLV6.out.fr Q9.out) (HIN.out.fr R9.out (by simp)) HIB.out hil2).mono ?_
 rintro e w10 ⟨rfl, r10⟩
 have R10 := Lib.hid (R9.out.trans r10)
 have Q10 := Lib.hid (Q9.out.trans r10)
 have HO10 := Lib.hid (Q10.out.heap HO6.out (by simp))
 have H10 := Lib.hid (H9.out.fr (prT p q s0) r10)
 clear r10 m0 m1 o0 o1
 go_wp2_with fail
 refine (overlent_ok w10 _ _ inp (HLV6.out.fr Q10.out) hil2).mono ?_
 rintro e w11 ⟨rfl, r11⟩
 have LB : Hid (∀ k, (Value.slice lva inp.length lvc).ownBlock = some k → w.heap.size ≤ k ∧ k < w6.heap.size ∧ w4.heap.size ≤ k) := Lib.hid (fun k hk => by
  obtain ⟨g, c, h1, h2, -, cur, h4, -⟩ := HLV6.out.row
  have h5 := SB.out.2
  have h6 := (Array.getElem?_eq_some_iff.1 h4).1
  rw [h1] at hk
  have hk : g = k := by simpa [Value.ownBlock] using hk
  omega)
 have R11 := Lib.hid (R10.out.trans' r11 (fun k hk _ => (LB.out k hk).1))
 have HO11 := Lib.hid (r11.heap HO10.out (fun hk => by
  obtain ⟨g, c, h1, h2, -, cur, h4, -⟩ := HLV6.out.row
  rw [h1] at hk
  have hk : g = w5.heap.size := by simpa [Value.ownBlock] using hk
  subst hk
  exact block_ne h4 HO6.out (by decide) rfl))
 have HD11 := Lib.hid (owns_fr (HOW6.out.low Q10.out (fun k hk => hk.elim)).data r11 (fun k hk hs => by have h1 := (LB.out k hs).2.2; have h2 := HXL.out k hk; omega))
 have HNU11 := Lib.hid ((HNU6.out.fr Q10.out (fun g hg => (HOW6.out.data.lt g hg).2)).frx r11 (fun g hg => (((HOW6.out.low Q10.out (fun k hk => hk.elim)).data.lt g hg).2)) (fun k hk hs => by have h1 := (LB.out k hs).2.2; have h2 := HXL.out k hk; omega))
 have H11 := Lib.hid (H10.out.turn (prT p q s0) r11 (fun k hk => ⟨⟨(LB.out k hk).1, (LB.out k hk).2.1⟩, (LB.out k hk).1⟩))
 clear r11
 have o0 := cell_of_heap (o := 0) HO11.out rfl
 have o1 := cell_of_heap (o := 1) HO11.out rfl
 go_wp2_with fail
 refine (overbytes_ok w11 _ _ _ _ HD11.out HNU11.out).mono ?_
 rintro e w12 ⟨rfl, r12⟩
 have XB : Hid (∀ k, (Value.slice xa m.d.length xc).ownBlock = some k → w.heap.size ≤ k ∧ k < w6.heap.size) := Lib.hid (fun k hk => ⟨by have := (HOW6.out.data.lt k hk).1; have := SB.out.1; omega, (HOW6.out.data.lt k hk).2⟩)
 have R12 := Lib.hid (R11.out.trans' r12 (fun k hk _ => (XB.out k hk).1))
 have H12 := Lib.hid (H11.out.turn (prT p q s0) r12 (fun k hk => ⟨⟨(XB.out k hk).1, (XB.out k hk).2⟩, (XB.out k hk).1⟩))
 clear r12 o0 o1
 go_wp2_with fail
 go_loopw [13, 17] (fun x y wr => ∃ (j p : Nat) (s : Zp), j ≤ l.length ∧ y = .int .i64 j ∧ x = .pointer (some ⟨p, 0, none⟩) ∧ Hid (s.ds.length ≤ j) ∧ Hid (Held w wr (PrT p q s) (fun k => w.heap.size ≤ k ∧ k < w6.heap.size))) (fun _ y _ => (l.length - intOf y).toNat)
 case atStart => exact ⟨0, p, s0, by omega, by simp, rfl, Lib.hid (by rw [HBL.out]; omega), H12⟩
 case round =>
  clear H7 H8 H9 H10 H11 H12
  obtain ⟨j, p, s, hj, rfl, rfl, hbd, hh⟩ := hrel
  by_cases hjl : j < l.length
  case neg =>
   have hlt : ¬ (j : Int) < l.length := by omega
   have RXW := Lib.hid hh.out.frame
   go_wp2_with fail
   refine (awake15_ok _).mono ?_
   rintro e wz ⟨rfl, rz⟩
   have RZ := Lib.hid (RXW.out.trans rz)
   clear rz
   go_wp2_with fail
   go_ret
   exact ⟨rfl, RZ.out⟩
  case pos =>
   have hlt : (j : Int) < l.length := by omega
   have hl50 := HLA.out.1
   obtain ⟨lb, lo, ua, uc, rfl, hat, hrd, hfx⟩ := HL.out j hjl
   have hxl := HLA.out.2 l[j] (List.getElem_mem hjl)
   have hds : s.ds.length ≤ 50 := by have := hbd.out; omega
   generalize l[j] = y at *
   have HDS := Lib.hid hds
   have HXL2 := Lib.hid hxl
   have HRD := Lib.hid hrd
   have HFX := Lib.hid hfx
   have HAT : Hid (∀ w', Fr no w w' → At w' lb (lo + j * 8) [.int .i64 y.k, .int .i64 y.r, .int .i64 y.n, .int .i64 y.b, .int .u64 y.v, .slice ua y.l.length uc, .int .i64 y.ek, .int .i64 y.ec]) := Lib.hid (fun w' r => hat.fr r)
   clear hat hrd hfx hxl hds
   obtain ⟨b0, b1, b2, b3, b4, b5, b6, b7⟩ := at_eight (HAT.out wr hh.out.frame)
   by_cases hk : y.k = 11
   case neg =>
    have hkb : (y.k == 11) = false := beq_eq_false_iff_ne.2 hk
    clear hk
    have HC := Lib.hid (hh.out.does y ua uc HRD.out HFX.out (by have := HDS.out; omega) (by have := HXL2.out; omega))
    have HOK : Hid s.Ok := Lib.hid (hh.out.one (fun O R h => prT_ok h))
    go_wp2_with fail
    refine HC.out.mono ?_
    rintro e w31 ⟨rfl, h31, -⟩
    have H31 := Lib.hid h31
    have HBD31 : Hid ((s.actS y).ds.length ≤ j + 1) := Lib.hid (by have h1 := actS_keep HOK.out y; have h2 := hbd.out; omega)
    have hd31 : (s.actS y).ds.length ≤ 100000 := by have := HBD31.out; omega
    clear h31 HC b0 b1 b2 b3 b4 b5 b6 b7
    go_wp2_with fail
    refine (H31.out.one (fun O R ⟨_, _, _, _, ⟨z1, h1⟩, ⟨z2, h2⟩, _⟩ => alike_ok w31 h1 h2 hd31)).mono ?_
    rintro e w32 ⟨rfl, r32⟩
    have H32 := Lib.hid (H31.out.fr (prT p q _) r32)
    clear r32 hd31
    go_wp2_with fail
    go_roundw
    case rel => exact ⟨j + 1, p, _, by omega, by go_num, rfl, HBD31, H32⟩
    case measure => first | (simp [intOf]; done) | (simp [intOf]; omega)
   case pos =>
    have hkb : (y.k == 11) = true := beq_iff_eq.2 hk
    clear hk
    go_wp2_with fail
    refine (hh.out.copyP (by have := HDS.out; omega)).mono ?_
    rintro e w21 ⟨kp, rfl, h21, r21⟩
    have H21 := Lib.hid h21
    clear h21 r21
    go_wp2_with fail
    refine (H21.out.one (fun O R ⟨_, _, _, _, ⟨_, _, _, _, ⟨z1, h1⟩, ⟨z2, h2⟩, _⟩, ⟨z3, h3⟩, _⟩ => ssame_ok w21 h3 h1 (by have := HDS.out; omega) (by have := HDS.out; omega))).mono ?_
    rintro e w22 ⟨rfl, r22⟩
    rw [sameS_refl]
    have H22 := Lib.hid (H21.out.fr (Both.thing (prT p q s) (spT kp s)) r22)
    clear r22
    go_wp2_with fail
    refine (H22.out.one (fun O R ⟨_, _, _, _, ⟨_, _, _, _, ⟨z1, h1⟩, ⟨z2, h2⟩, _⟩, ⟨z3, h3⟩, _⟩ => ssame_ok w22 h1 h3 (by have := HDS.out; omega) (by have := HDS.out; omega))).mono ?_
    rintro e w23 ⟨rfl, r23⟩
    rw [sameS_refl]
    have H23 := Lib.hid (H22.out.fr (Both.thing (prT p q s) (spT kp s)) r23)
    clear r23
    go_wp2_with fail
    refine (H23.out.call (fun O R h => h.right (prT p q s) (spT kp s) (fun O R ⟨z, h⟩ => (sstop_ok w23 4 0 h).mono (fun e w' ⟨a, b⟩ => ⟨a, b.th⟩)))).mono ?_
    rintro e w24 ⟨rfl, h24, -⟩
    have H24 := Lib.hid h24.drop
    clear h24
    go_wp2_with fail
    refine (H24.out.copyQ (by have := HDS.out; omega)).mono ?_
    rintro e w25 ⟨p3, rfl, h25, r25⟩
    have H25 := Lib.hid h25
    clear h25 r25 b0 b1 b2 b3 b4 b5 b6 b7
    obtain ⟨b0, b1, b2, b3, b4, b5, b6, b7⟩ := at_eight (HAT.out w25 H25.out.frame)
    have HC := Lib.hid (H25.out.does y ua uc HRD.out HFX.out (by have := HDS.out; omega) (by have := HXL2.out; omega))
    have HOK : Hid s.Ok := Lib.hid (H25.out.one (fun O R h => prT_ok h))
    go_wp2_with fail
    refine HC.out.mono ?_
    rintro e w31 ⟨rfl, h31, -⟩
    have H31 := Lib.hid h31
    have HBD31 : Hid ((s.actS y).ds.length ≤ j + 1) := Lib.hid (by have h1 := actS_keep HOK.out y; have h2 := hbd.out; omega)
    have hd31 : (s.actS y).ds.length ≤ 100000 := by have := HBD31.out; omega
    clear h31 HC b0 b1 b2 b3 b4 b5 b6 b7
    go_wp2_with fail
    refine (H31.out.one (fun O R ⟨_, _, _, _, ⟨z1, h1⟩, ⟨z2, h2⟩, _⟩ => alike_ok w31 h1 h2 hd31)).mono ?_
    rintro e w32 ⟨rfl, r32⟩
    have H32 := Lib.hid (H31.out.fr (prT p3 q _) r32)
    clear r32 hd31
    go_wp2_with fail
    go_roundw
    case rel => exact ⟨j + 1, p3, _, by omega, by go_num, rfl, HBD31, H32⟩
    case measure => first | (simp [intOf]; done) | (simp [intOf]; omega)
theorem script15_rd (w : World) (s0 : Array Value) {n0 : Nat} {d0 : Dt} (h0 : Rd Tryz.prog w n0 25 s0.toList d0) (mem : Int) (iv : Value) (zs : List Int) (hi : Reads w iv 1 zs.length (zs.map (.int .u8)) ∧ (∀ z ∈ zs, (Lit.int .u8 z).wf = true) ∧ zs.length * Tryz.prog.bytesOf 5 ≤ reachBytes)
  (fuel : Int) (lv : Value) {n2 : Nat} {d2 : Dt} (h2 : Rd Tryz.prog w n2 55 [lv] d2) :
  Calls Tryz.prog 9 #[.agg s0, .int .i64 mem, iv, .int .i64 fuel, lv] w fun e w' => e = .returned (.bool true) ∧ Fr no w w' := by
 have b3 : Tryz.prog.bytesOf 5 = 1 := by kernel_rfl
 have hR : reachBytes = 140737488351232 := rfl
 obtain ⟨m, da, dc, fa, fc, e0, hm, hr⟩ := mod_rd_of h0
 obtain rfl : s0 = #[.slice da m.d.length dc, .slice fa m.f.length fc] := Array.ext' e0
 obtain ⟨la, lc, l, rfl, hl, hll⟩ := acts_of h2
 obtain ⟨e1, e2⟩ := u8s_of zs hi.2.1
 have h4 := hi.2.2
 rw [b3, hR] at h4
 have h5 : Reads w iv 1 (zs.map Int.toNat).length (u8s (zs.map Int.toNat)) := by rw [e1, List.length_map]; exact hi.1
 obtain ⟨ia, ic, rfl⟩ := h5.shape
 exact script15_ok w m da dc fa fc mem ia ic (zs.map Int.toNat) fuel la lc l hm hr h5 e2 (by rw [List.length_map]; unfold maxLen; omega) hl hll

end Go.Proofs.YtihnkijeefkefaaGreat
