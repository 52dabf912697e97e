import Derived.Test.YtihnkijeefkefaaGreatLG
import Derived.Laws.BytesArg
import Derived.Test.YtihnkijeefkefaaGreatLA
set_option linter.unusedSimpArgs false
set_option linter.unusedVariables false
set_option linter.unusedSectionVars false
set_option linter.unnecessarySimpa false
set_option maxRecDepth 100000
namespace Go.Proofs.YtihnkijeefkefaaGreat
open Go.RowKit

attribute [local go_sem] Program.isFuncB Program.isSliceB

variable {w w' w'' w0 : World}

def strB (l : List Nat) : ByteArray := strOfNums (l.map fun (x : Nat) => (x : Int))
theorem conv_reads {v : Value} {l : List Nat} (h : Reads w v 1 l.length (u8s l)) : ∀ dst, Tryz.prog.underlying dst = some .string → (convert 22 dst v).run Tryz.prog w = .ok (.string (strB l)) w := by
  intro dst hd
  rcases h with ⟨rfl, h0, hx⟩ | ⟨ad, cap, rfl, h1, h2, h3, h4⟩
  · have : l = [] := List.length_eq_zero_iff.1 h0
    subst this
    exact run_convert_bytes_nil w _ _ Tryz.underlying22 Tryz.underlying5 _ _ dst hd
  · by_cases hl : l.length = 0
    · have : l = [] := List.length_eq_zero_iff.1 hl
      subst this
      rw [run_convert_bytes_string w _ dst _ _ _ _ Tryz.underlying22 Tryz.underlying5 hd]
      exact run_bytesToString w ad 0 cap [] (by simp [loadCells, loadCellsFrom])
    · obtain ⟨b, o, rfl⟩ : ∃ b o, ad = ⟨b, o, none⟩ := by
        have h5 := h4 0 (.int .u8 (l[0]'(by omega) : Nat)) (by simp only [u8s, List.getElem?_map]; rw [List.getElem?_eq_getElem (by omega)]; rfl)
        have := spot_none h5
        rw [show ad.add 0 = ad from by unfold Addr.add; simp] at this
        exact ⟨_, _, this⟩
      refine run_convert_bytes_arg w _ _ Tryz.underlying22 Tryz.underlying5 b o l.length cap _ (by simp) (fun i hi => ?_) dst hd
      have h5 := h4 i (.int .u8 (l[i] : Nat)) (by simp only [u8s, List.getElem?_map]; rw [List.getElem?_eq_getElem hi]; rfl)
      rw [Addr.add_lit] at h5
      rw [h5, List.getD_eq_getElem?_getD, List.getElem?_map, List.getElem?_eq_getElem hi]
      rfl

theorem strB_eq (a b : List Nat) (ha : ∀ x ∈ a, x < 256) (hb : ∀ x ∈ b, x < 256) : ((strB a).toList == (strB b).toList) = decide (a = b) := by
  have e : ∀ l : List Nat, (strB l).toList = l.map UInt8.ofNat := fun l => by
    rw [ByteArray.toList_eq]; unfold strB; rw [strOfNums_data, List.map_map]; rfl
  rw [e, e]
  rw [Bool.eq_iff_iff, beq_iff_eq, decide_eq_true_iff]
  refine ⟨fun h => ?_, fun h => by rw [h]⟩
  have h2 := congrArg (List.map UInt8.toNat) h
  rw [List.map_map, List.map_map] at h2
  have e2 : ∀ l : List Nat, (∀ x ∈ l, x < 256) → l.map (UInt8.toNat ∘ UInt8.ofNat) = l := fun l hl => by
    refine (List.map_congr_left (g := id) (fun x hx => ?_)).trans (List.map_id l)
    show (UInt8.ofNat x).toNat = x
    rw [UInt8.toNat_ofNat']
    exact Nat.mod_eq_of_lt (hl x hx)
  rwa [e2 a ha, e2 b hb] at h2

theorem samebytes_ok (w : World) (u v : Value) (a b : List Nat) (ha : Reads w u 1 a.length (u8s a)) (hb : Reads w v 1 b.length (u8s b)) (ka : ∀ x ∈ a, x < 256) (kb : ∀ x ∈ b, x < 256) :
    Calls Tryz.prog 113 #[u, v] w fun e w' => e = .returned (.bool (decide (a = b))) ∧ w = w' := by
  obtain ⟨ua, uc, rfl⟩ := ha.shape
  obtain ⟨va, vc, rfl⟩ := hb.shape
  have h1 := conv_reads ha
  have h2 := conv_reads hb
  have HE := Lib.hid (strB_eq a b ka kb)
  clear ha hb ka kb
  go_enter Tryz.func113, Tryz.ntmps113
  go_wp2_with fail
  go_ret
  exact ⟨by rw [← HE.out]; rfl, rfl⟩

end Go.Proofs.YtihnkijeefkefaaGreat

namespace Go.Proofs.YtihnkijeefkefaaGreat
open Go.RowKit

attribute [local go_sem] Program.isFuncB Program.isSliceB

variable {w w' w'' w0 : World}

theorem copybytes_ok (w : World) (v : Value) (bs : List Nat) (hb : Reads w v 1 bs.length (u8s bs)) (hl : bs.length ≤ 100000) :
    Calls Tryz.prog 111 #[v] w fun e w' => ∃ x, e = .returned x ∧ w'.ownsRow w.heap.size 5 1 x bs.length (u8s bs) ∧ Fr no w w' := by
  obtain ⟨va, vc, rfl⟩ := hb.shape
  have r0 := (Fr.refl no w).alloc (.cells #[] 5)
  have HO := Lib.hid (owns_new w 5 1)
  have HB := Lib.hid (hb.fr r0 (by simp))
  have R0 := Lib.hid r0
  clear hb r0
  go_enter Tryz.func111, Tryz.ntmps111
  go_wp2_with (at_builtin; (refine wpList_append_at rfl (.tmp 3) _ 22 rfl w.heap.size 5 (.int .u8 0) 1 1 Tryz.underlying22 Tryz.infoU8 rfl (by decide) _ 0 _ rfl HO.out bs.length _ HB.out (u8s_one _) (by unfold maxLen; omega) (by omega) (by simp only [World.size_alloc]; omega) ?_); intro ga gc w6 ho hg hb)
  have R6 := R0.out.trans' ((Fr.refl (fun k => (Value.slice (some ⟨w.heap.size, 0, none⟩) 0 0).ownBlock = some k) _).grown hg (fun k hk => .inl hk)) (fun k hk _ => by simp [Value.ownBlock] at hk; omega)
  have HO6 : Hid (w6.ownsRow w.heap.size 5 1 (.slice ga bs.length gc) bs.length (u8s bs)) := Lib.hid (by simpa using ho)
  clear ho hg hb
  go_ret
  exact ⟨_, rfl, HO6.out, R6⟩

/-- a copy that is lent: three cells of spare room behind it -/
structure Lent (w : World) (base : Nat) (v : Value) (bs : List Nat) : Prop where
  row : ∃ g c, v = .slice (some ⟨g, 0, none⟩) bs.length (bs.length + 3) ∧ base ≤ g ∧ c = bs.length + 3 ∧ ∃ cur, w.heap[g]? = some (.cells cur 5 (0, 0)) ∧ cur.toList.take c = u8s (bs ++ [77, 201, 5]) ∧ cur.size ≤ maxLen ∧ c ≤ cur.size
theorem lentbytes_ok (w : World) (v : Value) (bs : List Nat) (hb : Reads w v 1 bs.length (u8s bs)) (hl : bs.length ≤ 100000) :
    Calls Tryz.prog 47 #[v] w fun e w' => ∃ x, e = .returned x ∧ Lent w' w.heap.size x bs ∧ Fr no w w' := by
  obtain ⟨va, vc, rfl⟩ := hb.shape
  have HC := Lib.hid (copybytes_ok w _ bs hb hl)
  clear hb
  go_enter Tryz.func47, Tryz.ntmps47
  go_wp2_with fail
  refine HC.out.mono ?_
  rintro e w1 ⟨x, rfl, hx, r1⟩
  obtain ⟨xa, xc, rfl⟩ := owns_shape hx
  have r2 := (Fr.refl no w1).alloc (.cells #[.int .u8 77, .int .u8 201, .int .u8 5] 5)
  have HX := Lib.hid (owns_fr hx r2 (by simp))
  have R2 := Lib.hid (r1.trans r2)
  have HN := Lib.hid (owns_reads (owns_row w1 [.int .u8 77, .int .u8 201, .int .u8 5] 5 (by simp)))
  clear hx r1 r2
  go_upto_region 2 with (at_builtin; (refine wpList_append_at rfl (.tmp 5) _ 22 rfl w.heap.size 5 (.int .u8 0) 1 1 Tryz.underlying22 Tryz.infoU8 rfl (by decide) _ bs.length _ rfl HX.out 3 _ HN.out (by intro u hu; simp at hu; rcases hu with rfl | rfl | rfl <;> rfl) (by unfold maxLen; omega) (by omega) R2.out.size ?_); intro ga gc w6 ho hg hb)
  have R6 := Lib.hid (R2.out.trans' ((Fr.refl (fun k => (Value.slice xa bs.length xc).ownBlock = some k) _).grown hg (fun k hk => .inl hk)) (fun k hk _ => (HX.out.lt k hk).1))
  rcases ho.2 with ⟨h0, h1⟩ | ⟨g, cap, cur, he, hbg, hh, h2, h3, h4, h5⟩
  · omega
  cases he
  have HL : Hid (Lent w6 w.heap.size (.slice (some ⟨g, 0, none⟩) bs.length (bs.length + 3)) bs) := Lib.hid ⟨g, bs.length + 3, rfl, hbg, rfl, cur, hh, by rw [Nat.mul_one] at h5; rw [h5]; simp [u8s], by omega, by omega⟩
  have hcap : bs.length + 3 ≤ gc := h2
  have hcap' : (bs.length : Int) + 3 ≤ gc := by omega
  clear ho hg hb hbg hh h2 h3 h4 h5
  go_wp2_with fail
  go_ret
  exact ⟨_, rfl, HL.out, R6.out⟩

end Go.Proofs.YtihnkijeefkefaaGreat

namespace Go.Proofs.YtihnkijeefkefaaGreat
open Go.RowKit

attribute [local go_sem] Program.isFuncB Program.isSliceB

variable {w w' w'' w0 : World}

theorem Lent.fr {base : Nat} {v : Value} {bs : List Nat} (h : Lent w base v bs) (r : Fr no w w') : Lent w' base v bs := by
  obtain ⟨g, c, h1, h2, h3, cur, h4, h5, h6, h7⟩ := h.row
  exact ⟨g, c, h1, h2, h3, cur, r.heap h4 (by simp), h5, h6, h7⟩
theorem Lent.reads {base : Nat} {v : Value} {bs : List Nat} (h : Lent w base v bs) : Reads w v 1 bs.length (u8s bs) ∧ ∃ g, v = .slice (some ⟨g, 0, none⟩) bs.length (bs.length + 3) ∧ Reads w (.slice (some ⟨g, bs.length, none⟩) 3 3) 1 3 (u8s [77, 201, 5]) := by
  obtain ⟨g, c, rfl, h2, rfl, cur, h4, h5, h6, h7⟩ := h.row
  have hc : ∀ j u, (u8s (bs ++ [77, 201, 5]))[j]? = some u → w.cell? ⟨g, j, none⟩ = some u := fun j u hu => by
    rw [← h5, List.getElem?_take] at hu
    split at hu
    · exact cell_of_heap h4 (by simpa using hu)
    · cases hu
  refine ⟨.inr ⟨_, _, rfl, by omega, by omega, by simp [u8s], fun j u hu => ?_⟩, g, rfl, .inr ⟨_, _, rfl, by omega, by omega, by simp [u8s], fun j u hu => ?_⟩⟩
  · rw [Addr.add_lit, Nat.zero_add]
    refine hc j u ?_
    have hj := (List.getElem?_eq_some_iff.1 hu).1
    simp only [u8s, List.map_append]
    rw [List.getElem?_append_left (by simpa [u8s] using hj)]
    exact hu
  · rw [Addr.add_lit]
    refine hc _ u ?_
    simp only [u8s, List.map_append]
    rw [List.getElem?_append_right (by simp)]
    simpa [u8s] using hu

theorem keptbytes_ok (w : World) (base : Nat) (lv bv : Value) (bs : List Nat) (hL : Lent w base lv bs) (hb : Reads w bv 1 bs.length (u8s bs)) (hk : ∀ x ∈ bs, x < 256) (hl : bs.length ≤ 100000) :
    Calls Tryz.prog 49 #[lv, bv] w fun e w' => e = .returned (.bool true) ∧ Fr no w w' := by
  obtain ⟨h1, g, rfl, h2⟩ := hL.reads
  obtain ⟨va, vc, rfl⟩ := hb.shape
  have H1 := Lib.hid (samebytes_ok w _ _ bs bs h1 hb hk hk)
  have r2 := (Fr.refl no w).alloc (.cells #[.int .u8 77, .int .u8 201, .int .u8 5] 5)
  have R2 := Lib.hid r2
  have H2 := Lib.hid (samebytes_ok _ _ _ [77, 201, 5] [77, 201, 5] (h2.fr r2 (by simp)) (owns_reads (owns_row w [.int .u8 77, .int .u8 201, .int .u8 5] 5 (by simp))) (by simp) (by simp))
  have hcap : (bs.length : Int) + 3 ≤ ((bs.length + 3 : Nat) : Int) := by omega
  have hs : bs.length + 3 - bs.length = 3 := by omega
  clear h1 h2 hL hb r2
  go_enter Tryz.func49, Tryz.ntmps49
  go_wp2_with fail
  refine H1.out.mono ?_
  rintro e w' ⟨rfl, rfl⟩
  go_wp2_with fail
  refine H2.out.mono ?_
  rintro e w' ⟨rfl, rfl⟩
  go_wp2_with fail
  go_ret
  exact ⟨rfl, R2.out⟩

end Go.Proofs.YtihnkijeefkefaaGreat

namespace Go.Proofs.YtihnkijeefkefaaGreat
open Go.RowKit

attribute [local go_sem] Program.isFuncB Program.isSliceB

variable {w w' w'' w0 : World}

end Go.Proofs.YtihnkijeefkefaaGreat

namespace Go.Proofs.YtihnkijeefkefaaGreat
open Go.RowKit

attribute [local go_sem] Program.isFuncB Program.isSliceB

variable {w w' w'' w0 : World}

theorem InsIn.at_ {b o : Nat} {i : Ix} {u : Value} (h : InsIn w b o i u) : At w b o (i.cells u) := h.cell

end Go.Proofs.YtihnkijeefkefaaGreat

namespace Go.Proofs.YtihnkijeefkefaaGreat
open Go.RowKit

attribute [local go_sem] Program.isFuncB Program.isSliceB

variable {w w' w'' w0 : World}

/-- rows of two types lie apart -/
theorem owns_ne {base base' n m z z' : Nat} {e e' : TypeId} {u v : Value} {xs ys : List Value} (h : w.ownsRow base e z u n xs) (k : w.ownsRow base' e' z' v m ys) (hne : e ≠ e') : ∀ i, u.ownBlock = some i → v.ownBlock ≠ some i := by
  intro i hi hj
  rcases h.2 with ⟨rfl, -⟩ | ⟨g, cap, cur, rfl, -, hg, -⟩
  · cases hi
  rcases k.2 with ⟨rfl, -⟩ | ⟨g', cap', cur', rfl, -, hg', -⟩
  · cases hj
  have h1 : g = i := by simpa [Value.ownBlock] using hi
  have h2 : g' = i := by simpa [Value.ownBlock] using hj
  subst h1
  subst h2
  exact elem_ne hg hg' hne rfl

theorem cellsOf_len : ∀ (l : List (Ix × Value)), (cellsOf l).length = l.length * 6
  | [] => rfl
  | p :: l => by
    have := cellsOf_len l
    simp only [cellsOf, List.flatMap_cons, List.length_append, List.length_cons] at *
    rw [this]
    simp [Ix.cells]
    omega
theorem cellsOf_get : ∀ (l : List (Ix × Value)) (k j : Nat) (hk : k < l.length), j < 6 → (cellsOf l)[k * 6 + j]? = (l[k].1.cells l[k].2)[j]?
  | [], k, j, hk, _ => by simp at hk
  | p :: l, k, j, hk, hj => by
    have h6 : (p.1.cells p.2).length = 6 := rfl
    simp only [cellsOf, List.flatMap_cons]
    match k with
    | 0 => rw [List.getElem?_append_left (by rw [h6]; omega)]; simp
    | k + 1 =>
      rw [List.getElem?_append_right (by rw [h6]; omega), h6, show (k + 1) * 6 + j - 6 = k * 6 + j from by omega]
      exact cellsOf_get l k j (by simpa using hk) hj

/-- rows of the call's own, read -/
theorem codeIn_owns {base : Nat} {u : Value} {l : List (Ix × Value)} (h : w.ownsRow base 112 6 u l.length (cellsOf l)) (ha : ∀ p ∈ l, Reads w p.2 1 p.1.l.length (ints p.1.l)) :
    ∃ a c, u = .slice a l.length c ∧ CodeIn w a (l.map Prod.fst) := by
  rcases h.2 with ⟨rfl, h0⟩ | ⟨g, cap, cur, rfl, hb, hg, h1, h2, h3, h4⟩
  · exact ⟨none, 0, by rw [h0], fun k hk => by simp at hk; omega⟩
  · refine ⟨_, _, rfl, fun k hk => ?_⟩
    have hk' : k < l.length := by simpa using hk
    refine ⟨g, 0, l[k].2, rfl, ⟨fun j v hj => ?_, ?_⟩⟩
    · have hj6 : j < 6 := (List.getElem?_eq_some_iff.1 hj).1
      simp only [List.getElem_map] at hj
      rw [← cellsOf_get l k j hk' hj6] at hj
      have := h.cells rfl (k * 6 + j) v hj
      rw [Addr.add_lit] at this
      rw [Nat.zero_add] at this ⊢
      exact this
    · simp only [List.getElem_map]
      exact ha _ (List.getElem_mem hk')

/-- where CopyCode's loop stands -/
structure CC (w wr : World) (x : Value) (l : List (Ix × Value)) : Prop where
  fr : Fr no w wr
  out : wr.ownsRow w.heap.size 112 6 x l.length (cellsOf l)
  args : ∀ p ∈ l, wr.ownsRow w.heap.size 3 1 p.2 p.1.l.length (ints p.1.l)
section
variable {wr wr' : World} {x x' : Value} {l : List (Ix × Value)}
theorem CC.to (h : CC w wr x l) (q : Fr no wr wr') : CC w wr' x l := ⟨h.fr.trans q, owns_fr h.out q (by simp), fun p hp => owns_fr (h.args p hp) q (by simp)⟩
theorem CC.app {i : Ix} {u : Value} (h : CC w wr x l) (hu : wr.ownsRow w.heap.size 3 1 u i.l.length (ints i.l))
    (ho : wr'.ownsRow w.heap.size 112 6 x' (l.length + 1) (cellsOf l ++ i.cells u)) (hg : wr.grownBy wr' x.ownBlock) : CC w wr' x' (l ++ [(i, u)]) := by
  have q : Fr (fun k => x.ownBlock = some k) wr wr' := (Fr.refl _ wr).grown hg (fun k hk => .inl hk)
  refine ⟨h.fr.trans' q (fun k hk _ => (h.out.lt k hk).1), by rw [cellsOf_snoc, List.length_append]; exact ho, fun p hp => ?_⟩
  rcases List.mem_append.1 hp with hp | hp
  · exact owns_fr (h.args p hp) q (fun k hk e => owns_ne h.out (h.args p hp) (by decide) k e hk)
  · rw [List.mem_singleton] at hp; subst hp
    exact owns_fr hu q (fun k hk e => owns_ne h.out hu (by decide) k e hk)
end

end Go.Proofs.YtihnkijeefkefaaGreat
