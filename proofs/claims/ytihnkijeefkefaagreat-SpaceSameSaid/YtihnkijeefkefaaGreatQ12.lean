import Derived.Test.YtihnkijeefkefaaGreatQ11
import Derived.Deep.MidRow
set_option linter.unusedSimpArgs false
set_option linter.unusedVariables false
set_option linter.unusedSectionVars false
set_option linter.unnecessarySimpa false
set_option maxRecDepth 100000
/- The program's space: Go, Burn, Stop, Getb, Putb. -/
namespace Go.Proofs.YtihnkijeefkefaaGreat
open Go.RowKit

attribute [local go_sem] Program.isFuncB Program.isSliceB

variable {w w' w'' w0 : World} {O R : Nat → Prop} {p : Nat} {s s' : Zp} {z : Pz}

/-- behind a call the space is so; what it has of its own is what it had, or new -/
def SpTo (w w' : World) (O R : Nat → Prop) (p : Nat) (s : Zp) : Prop := ∃ O' z', SpAt w' O' R p s z' ∧ Fr O w w' ∧ (∀ k, O k → O' k) ∧ ∀ k, O' k → O k ∨ w.heap.size ≤ k
theorem SpAt.to (h : SpAt w' O R p s z) (r : Fr O w w') : SpTo w w' O R p s := ⟨O, z, h, r, fun _ h => h, fun _ h => .inl h⟩
theorem SpTo.pre {w1 : World} (h : SpTo w1 w' O R p s) (r : Fr no w w1) : SpTo w w' O R p s := by
  obtain ⟨O', z', h1, h2, h3, h4⟩ := h
  exact ⟨O', z', h1, r.to.trans h2, h3, fun k hk => (h4 k hk).imp id (fun h => Nat.le_trans r.size h)⟩
theorem there_of {w : World} {b o n : Nat} {c : Array Value} {t : TypeId} (h : w.heap[b]? = some (.cells c t (0, 0))) (hn : o + n ≤ c.size) : w.there b o n := fun j hj => by
  have hl : o + j < c.size := by omega
  exact ⟨by rw [cell_of_heap (o := o + j) (v := c[o + j]) h (Array.getElem?_eq_getElem hl)]; rfl, frozen_of_heap h⟩
theorem heap_setCells2 {w : World} {b o : Nat} {c : Array Value} {t : TypeId} {x y : Value} (h : w.heap[b]? = some (.cells c t (0, 0))) : (w.setCells b o [x, y]).heap[b]? = some (.cells ((c.setIfInBounds o x).setIfInBounds (o + 1) y) t (0, 0)) :=
  heap_setCell (o := o + 1) (heap_setCell (o := o) h)
theorem fr_setCells2 {w : World} {b o : Nat} {x y : Value} : Fr (only [b]) w (w.setCells b o [x, y]) :=
  ((Fr.refl (only [b]) w).setCell ⟨b, o, none⟩ x (.inl (by simp))).setCell ⟨b, o + 1, none⟩ y (.inl (by simp))
theorem Tryz.infoEnd : (Tryz.prog.info? 43).map (·.size) = some 2 := by kernel_rfl
/-- its ending is turned -/
theorem SpAt.endS (h : SpAt w O R p s z) (e : Dd) (hok : ({ s with e := e } : Zp).Ok) : SpAt (w.setCells p 16 [.int .i64 e.1, .int .i64 e.2]) O R p { s with e := e } z ∧ Fr O w (w.setCells p 16 [.int .i64 e.1, .int .i64 e.2]) :=
  ⟨h.turn fr_setCells2 (heap_setCells2 h.obj) rfl rfl rfl rfl rfl rfl hok, fr_setCells2.mono (fun k hk _ => by simp at hk; subst hk; exact h.op)⟩
theorem SpAt.goS (h : SpAt w O R p s z) (n : Int) (hok : ({ s with pc := n } : Zp).Ok) : SpAt (w.setCell ⟨p, 14, none⟩ (.int .i64 n)) O R p { s with pc := n } z ∧ Fr O w (w.setCell ⟨p, 14, none⟩ (.int .i64 n)) :=
  ⟨h.turn ((Fr.refl (only [p]) w).setCell ⟨p, 14, none⟩ _ (.inl (by simp))) (heap_setCell (o := 14) h.obj) rfl rfl rfl rfl rfl rfl hok, (Fr.refl O w).setCell ⟨p, 14, none⟩ _ (.inl h.op)⟩
theorem SpAt.fuelS (h : SpAt w O R p s z) (n : Int) (hok : ({ s with fuel := n } : Zp).Ok) : SpAt (w.setCell ⟨p, 10, none⟩ (.int .i64 n)) O R p { s with fuel := n } z ∧ Fr O w (w.setCell ⟨p, 10, none⟩ (.int .i64 n)) :=
  ⟨h.turn ((Fr.refl (only [p]) w).setCell ⟨p, 10, none⟩ _ (.inl (by simp))) (heap_setCell (o := 10) h.obj) rfl rfl rfl rfl rfl rfl hok, (Fr.refl O w).setCell ⟨p, 10, none⟩ _ (.inl h.op)⟩
/-- its tape is turned -/
theorem SpAt.tapeS {pos' : Nat} {ds' : List Dd} {lv' : Value} (h : SpAt w O R p s z) (ht : TapeAt w' 0 z.t s.inp pos' ds' z.tv lv') (r : Fr (TapeS z.t z.lv) w w') (hn : NewRow w z.lv lv') : SpTo w w' O R p { s with pos := pos', ds := ds' } := by
  have hO : ∀ k, TapeS z.t z.lv k → O k := fun k hk => by rcases hk with rfl | hk; exact h.ot; exact h.ol k hk
  have hR : ∀ k, R k → ¬ TapeS z.t z.lv k := fun k hk e => h.dis k (hO k e) hk
  refine ⟨fun k => O k ∨ (w.heap.size ≤ k ∧ k < w'.heap.size), { z with lv := lv' }, ⟨?_, ?_, ht, ?_, ?_, ?_, .inl h.op, .inl h.og, .inl h.ot, ?_, fun k hk => .inl (h.okv k hk), h.rq, h.rt, ?_, ?_⟩, r.mono (fun k hk _ => hO k hk), fun k hk => .inl hk, fun k hk => hk.imp id (fun h => h.1)⟩
  · exact r.heap h.obj (fun e => by rcases e with e | e; exact h.pt e; exact row_block_ne h.tape.out h.obj (by decide) e)
  · exact h.mem.frx r (fun e => hR _ h.rq e) (fun e => by
      obtain ⟨cur, hg, -⟩ := h.mem.block
      rcases e with e | e
      · exact h.gt e
      · exact row_block_ne h.tape.out hg (by decide) e)
  · exact owns_fr h.links r (fun k hk e => by
      rcases e with e | e
      · subst e; exact row_block_ne h.links h.tape.obj (by decide) hk
      · exact rows_ne h.tape.out h.links (by decide) k e hk)
  · exact h.ro.fr r (fun k hk _ => hR k hk)
  · exact h.ok.fix rfl rfl h.ok.bb rfl ht.le rfl rfl rfl h.ok.f0 h.ok.f1 h.ok.pl h.ok.em id
  · intro k hk
    rcases hn k hk with e | e
    · exact .inl (h.ol k e)
    · exact .inr ⟨e, (ht.out.lt k hk).2⟩
  · intro k hk hr
    rcases hk with hk | hk
    · exact h.dis k hk hr
    · have := h.lt k (.inr hr); omega
  · intro k hk
    rcases hk with (hk | hk) | hk
    · exact Nat.lt_of_lt_of_le (h.lt k (.inl hk)) r.size
    · exact hk.2
    · exact Nat.lt_of_lt_of_le (h.lt k (.inr hk)) r.size

theorem goS_9 (h : ¬ s.e.1 = 0) (n : Int) : s.goS n = (s, 9) := by simp [Zp.goS, h]
theorem goS_5 (h : s.e.1 = 0) {n : Int} (hn : isPl n = false) : s.goS n = (s, 5) := by simp [Zp.goS, h, hn]
theorem goS_0 (h : s.e.1 = 0) {n : Int} (hn : isPl n = true) : s.goS n = ({ s with pc := n }, 0) := by simp [Zp.goS, h, hn]
theorem burnS_9 (h : ¬ s.e.1 = 0) (n : Int) : s.burnS n = (s, 9) := by simp [Zp.burnS, h]
theorem burnS_2 (h : s.e.1 = 0) {n : Int} (hn : n < 0 ∨ s.fuel < n) : s.burnS n = (s, 2) := by simp [Zp.burnS, h, hn]
theorem burnS_0 (h : s.e.1 = 0) {n : Int} (hn : ¬ (n < 0 ∨ s.fuel < n)) : s.burnS n = ({ s with fuel := s.fuel - n }, 0) := by simp [Zp.burnS, h, hn]
theorem stopS_9 (h : ¬ s.e.1 = 0) (e : Dd) : s.stopS e = (s, 9) := by simp [Zp.stopS, h]
theorem stopS_2 (h : s.e.1 = 0) {e : Dd} (hn : mayE e = false) : s.stopS e = (s, 2) := by simp [Zp.stopS, h, hn]
theorem stopS_0 (h : s.e.1 = 0) {e : Dd} (hn : mayE e = true) : s.stopS e = ({ s with e := e }, 0) := by simp [Zp.stopS, h, hn]
theorem getbS_9 (h : ¬ s.e.1 = 0) : s.getbS = (s, 0, 9) := by simp [Zp.getbS, h]
theorem getbS_0 (h : s.e.1 = 0) : s.getbS = (s.got, tgB s.inp s.pos, 0) := by simp [Zp.getbS, h]
theorem putbS_9 (h : ¬ s.e.1 = 0) (n : Int) : s.putbS n = (s, 9) := by simp [Zp.putbS, h]
theorem putbS_0 (h : s.e.1 = 0) (n : Int) : s.putbS n = ({ s with ds := s.ds ++ [(2, n % 256)] }, 0) := by simp [Zp.putbS, h]
set_option maxHeartbeats 1000000 in
theorem sgo_ok (w : World) (n : Int) (h : SpAt w O R p s z) : Calls Tryz.prog 42 #[.pointer (some ⟨p, 0, none⟩), .int .i64 n] w fun e w' => e = .returned (.int .i64 (s.goS n).2) ∧ SpTo w w' O R p (s.goS n).1 := by
  have HA := Lib.hid (sasked_ok w h)
  have H := Lib.hid h
  by_cases he : s.e.1 = 0
  case neg =>
    have HQ := Lib.hid (goS_9 he n)
    have HE := Lib.hid (ask_9 he)
    clear h he
    go_enter Tryz.func42, Tryz.ntmps42
    go_wp2_with fail
    refine HA.out.mono ?_
    rintro e w1 ⟨rfl, r1⟩
    rw [HE.out]
    have R1 := Lib.hid r1
    have H1 := Lib.hid (H.out.fr r1)
    clear r1
    go_wp2_with fail
    go_ret
    rw [HQ.out]
    exact ⟨rfl, H1.out.to R1.out.to⟩
  have HE := Lib.hid (ask_0 he)
  have HP := Lib.hid (fun w => splace_ok w n)
  cases hn : isPl n
  · have HQ := Lib.hid (goS_5 he hn)
    rw [hn] at HP
    clear h he hn
    go_enter Tryz.func42, Tryz.ntmps42
    go_wp2_with fail
    refine HA.out.mono ?_
    rintro e w1 ⟨rfl, r1⟩
    rw [HE.out]
    have R1 := Lib.hid r1
    have H1 := Lib.hid (H.out.fr r1)
    clear r1
    go_wp2_with fail
    refine (HP.out _).mono ?_
    rintro e w' ⟨rfl, rfl⟩
    go_wp2_with fail
    go_ret
    rw [HQ.out]
    exact ⟨rfl, H1.out.to R1.out.to⟩
  · have HQ := Lib.hid (goS_0 he hn)
    have HOK : Hid ((s.goS n).1.Ok) := Lib.hid (h.ok.goS n)
    rw [HQ.out] at HOK
    rw [hn] at HP
    clear h he hn
    go_enter Tryz.func42, Tryz.ntmps42
    go_wp2_with fail
    refine HA.out.mono ?_
    rintro e w1 ⟨rfl, r1⟩
    rw [HE.out]
    have R1 := Lib.hid r1
    have H1 := Lib.hid (H.out.fr r1)
    clear r1
    go_wp2_with fail
    refine (HP.out _).mono ?_
    rintro e w' ⟨rfl, rfl⟩
    have HS := Lib.hid (H1.out.goS n HOK.out)
    have c14 : w1.cell? ⟨p, 14, none⟩ = some (.int .i64 s.pc) := cell_of_heap H1.out.obj rfl
    have f14 : w1.frozen? ⟨p, 14, none⟩ = false := frozen_of_heap H1.out.obj
    go_wp2_with fail
    go_ret
    rw [HQ.out]
    exact ⟨rfl, (HS.out.1.to HS.out.2).pre R1.out⟩
set_option maxHeartbeats 1000000 in
theorem sburn_ok (w : World) (n : Int) (hn63 : -9223372036854775808 ≤ n) (h : SpAt w O R p s z) : Calls Tryz.prog 22 #[.pointer (some ⟨p, 0, none⟩), .int .i64 n] w fun e w' => e = .returned (.int .i64 (s.burnS n).2) ∧ SpTo w w' O R p (s.burnS n).1 := by
  have HA := Lib.hid (sasked_ok w h)
  have H := Lib.hid h
  by_cases he : s.e.1 = 0
  case neg =>
    have HQ := Lib.hid (burnS_9 he n)
    have HE := Lib.hid (ask_9 he)
    clear h he
    go_enter Tryz.func22, Tryz.ntmps22
    go_wp2_with fail
    refine HA.out.mono ?_
    rintro e w1 ⟨rfl, r1⟩
    rw [HE.out]
    have R1 := Lib.hid r1
    have H1 := Lib.hid (H.out.fr r1)
    clear r1
    go_wp2_with fail
    go_ret
    rw [HQ.out]
    exact ⟨rfl, H1.out.to R1.out.to⟩
  have HE := Lib.hid (ask_0 he)
  have h0 := h.ok.f0
  have h1 := h.ok.f1
  by_cases hn : n < 0 ∨ s.fuel < n
  · have HQ := Lib.hid (burnS_2 he hn)
    have HF : Hid (∀ w', SpAt w' O R p s z → w'.cell? ⟨p, 10, none⟩ = some (.int .i64 s.fuel)) := Lib.hid (fun w' h => cell_of_heap h.obj rfl)
    clear h he
    by_cases hn0 : n < 0
    · clear hn
      go_enter Tryz.func22, Tryz.ntmps22
      go_wp2_with fail
      refine HA.out.mono ?_
      rintro e w1 ⟨rfl, r1⟩
      rw [HE.out]
      have R1 := Lib.hid r1
      have H1 := Lib.hid (H.out.fr r1)
      clear r1
      go_wp2_with fail
      go_loopw [6] (fun _ wr => wr = w1) (fun _ _ => 0)
      case atStart => rfl
      case round =>
        obtain rfl := hrel
        have c10 := HF.out _ H1.out
        go_wp2_with fail
        refine (aload_ok _ _ _ c10).mono ?_
        rintro e w' ⟨rfl, rfl⟩
        go_wp2_with fail
        go_ret
        rw [HQ.out]
        exact ⟨rfl, H1.out.to R1.out.to⟩
    · have hn1 : n > s.fuel := by omega
      clear hn
      go_enter Tryz.func22, Tryz.ntmps22
      go_wp2_with fail
      refine HA.out.mono ?_
      rintro e w1 ⟨rfl, r1⟩
      rw [HE.out]
      have R1 := Lib.hid r1
      have H1 := Lib.hid (H.out.fr r1)
      clear r1
      go_wp2_with fail
      go_loopw [6] (fun _ wr => wr = w1) (fun _ _ => 0)
      case atStart => rfl
      case round =>
        obtain rfl := hrel
        have c10 := HF.out _ H1.out
        go_wp2_with fail
        refine (aload_ok _ _ _ c10).mono ?_
        rintro e w' ⟨rfl, rfl⟩
        go_wp2_with fail
        go_ret
        rw [HQ.out]
        exact ⟨rfl, H1.out.to R1.out.to⟩
  · have HQ := Lib.hid (burnS_0 he hn)
    have hn0 : ¬ n < 0 := fun h => hn (.inl h)
    have hn1 : ¬ n > s.fuel := fun h => hn (.inr h)
    have hw : IntKind.i64.wrap (s.fuel - n) = s.fuel - n := by rw [IntKind.wrap_i64]; omega
    have HF : Hid (∀ w', SpAt w' O R p s z → w'.cell? ⟨p, 10, none⟩ = some (.int .i64 s.fuel) ∧ w'.frozen? ⟨p, 10, none⟩ = false) := Lib.hid (fun w' h => ⟨cell_of_heap h.obj rfl, frozen_of_heap h.obj⟩)
    have HOK : Hid ((s.burnS n).1.Ok) := Lib.hid (h.ok.burnS n)
    rw [HQ.out] at HOK
    clear h he hn h0 h1
    go_enter Tryz.func22, Tryz.ntmps22
    go_wp2_with fail
    refine HA.out.mono ?_
    rintro e w1 ⟨rfl, r1⟩
    rw [HE.out]
    have R1 := Lib.hid r1
    have H1 := Lib.hid (H.out.fr r1)
    clear r1
    go_wp2_with fail
    go_loopw [6] (fun _ wr => wr = w1) (fun _ _ => 0)
    case atStart => rfl
    case round =>
      obtain rfl := hrel
      have c10 := HF.out _ H1.out
      go_wp2_with fail
      refine (aload_ok _ _ _ c10.1).mono ?_
      rintro e w' ⟨rfl, rfl⟩
      go_wp2_with fail
      refine (acas_ok _ _ _ _ c10.1 c10.2).mono ?_
      rintro e w2 ⟨rfl, rfl⟩
      have HS := Lib.hid (H1.out.fuelS (s.fuel - n) HOK.out)
      go_wp2_with fail
      go_ret
      rw [HQ.out]
      exact ⟨rfl, (HS.out.1.to HS.out.2).pre R1.out⟩
set_option maxHeartbeats 1000000 in
theorem sstop_ok (w : World) (k c : Int) (h : SpAt w O R p s z) : Calls Tryz.prog 43 #[.pointer (some ⟨p, 0, none⟩), .agg #[.int .i64 k, .int .i64 c]] w fun e w' => e = .returned (.int .i64 (s.stopS (k, c)).2) ∧ SpTo w w' O R p (s.stopS (k, c)).1 := by
  have r0 := (Fr.refl no w).alloc (.cells #[.int .i64 k, .int .i64 c] 43)
  have HB := Lib.hid (heap_new w (.cells #[.int .i64 k, .int .i64 c] 43))
  have HA := Lib.hid (sasked_ok _ (h.fr r0))
  have H := Lib.hid (h.fr r0)
  have R0 := Lib.hid r0
  clear r0
  by_cases he : s.e.1 = 0
  case neg =>
    have HQ := Lib.hid (stopS_9 he (k, c))
    have HE := Lib.hid (ask_9 he)
    clear h he
    go_enter Tryz.func43, Tryz.ntmps43
    go_wp2_with fail
    refine HA.out.mono ?_
    rintro e w1 ⟨rfl, r1⟩
    rw [HE.out]
    have R1 := Lib.hid (R0.out.trans r1)
    have H1 := Lib.hid (H.out.fr r1)
    have hb1 := r1.heap HB.out (by simp)
    have HB1 := Lib.hid hb1
    clear r1
    go_wp2_with fail
    go_ret
    rw [HQ.out]
    exact ⟨rfl, H1.out.to R1.out.to⟩
  have HE := Lib.hid (ask_0 he)
  cases hm : mayE (k, c)
  · have HQ := Lib.hid (stopS_2 he hm)
    have HC := Lib.hid (fun w => check_badend w k c hm)
    clear h he hm
    go_enter Tryz.func43, Tryz.ntmps43
    go_wp2_with fail
    refine HA.out.mono ?_
    rintro e w1 ⟨rfl, r1⟩
    rw [HE.out]
    have R1 := Lib.hid (R0.out.trans r1)
    have H1 := Lib.hid (H.out.fr r1)
    have hb1 := r1.heap HB.out (by simp)
    have HB1 := Lib.hid hb1
    clear r1
    have c0 : w1.cell? ⟨w.heap.size, 0, none⟩ = some (.int .i64 k) := cell_of_heap hb1 rfl
    have c1 : w1.cell? ⟨w.heap.size, 1, none⟩ = some (.int .i64 c) := cell_of_heap hb1 rfl
    clear hb1
    go_wp2_with fail
    refine (HC.out _).mono ?_
    rintro e w2 ⟨rfl, r2⟩
    have R2 := Lib.hid (R1.out.trans r2)
    have H2 := Lib.hid (H1.out.fr r2)
    clear r2
    go_wp2_with fail
    go_ret
    rw [HQ.out]
    exact ⟨rfl, H2.out.to R2.out.to⟩
  · have HQ := Lib.hid (stopS_0 he hm)
    have HC := Lib.hid (fun w => check_nil w k c hm)
    have HOK : Hid ((s.stopS (k, c)).1.Ok) := Lib.hid (h.ok.stopS (k, c))
    rw [HQ.out] at HOK
    clear h he hm
    go_enter Tryz.func43, Tryz.ntmps43
    go_wp2_with fail
    refine HA.out.mono ?_
    rintro e w1 ⟨rfl, r1⟩
    rw [HE.out]
    have R1 := Lib.hid (R0.out.trans r1)
    have H1 := Lib.hid (H.out.fr r1)
    have hb1 := r1.heap HB.out (by simp)
    have HB1 := Lib.hid hb1
    clear r1
    have c0 : w1.cell? ⟨w.heap.size, 0, none⟩ = some (.int .i64 k) := cell_of_heap hb1 rfl
    have c1 : w1.cell? ⟨w.heap.size, 1, none⟩ = some (.int .i64 c) := cell_of_heap hb1 rfl
    clear hb1
    go_wp2_with fail
    refine (HC.out _).mono ?_
    rintro e w2 ⟨rfl, r2⟩
    have R2 := Lib.hid (R1.out.trans r2)
    have H2 := Lib.hid (H1.out.fr r2)
    have hb2 := r2.heap HB1.out (by simp)
    have d0 : w2.cell? ⟨w.heap.size, 0, none⟩ = some (.int .i64 k) := cell_of_heap hb2 rfl
    have d1 : w2.cell? ⟨w.heap.size, 1, none⟩ = some (.int .i64 c) := cell_of_heap hb2 rfl
    clear r2 hb2 c0 c1
    have HT := Lib.hid (there_of (o := 16) (n := 2) H2.out.obj (show 16 + 2 ≤ 18 from by decide))
    have HS := Lib.hid (H2.out.endS (k, c) HOK.out)
    go_wp2_with ((refine wpList_store_mid (op := ⟨none, .store 43 (.tmp 18) (.tmp 16), _, _, _, _⟩) rfl 43 (.tmp 18) (.tmp 16) rfl p 16 #[.int .i64 k, .int .i64 c] rfl rfl HT.out (by rw [Tryz.infoEnd]; rfl) (by simp [Value.oneCell']) ?_; rw [act_put_none]))
    go_ret
    rw [HQ.out]
    exact ⟨rfl, (HS.out.1.to HS.out.2).pre R2.out⟩
set_option maxHeartbeats 1000000 in
theorem sgetb_ok (w : World) (hd : s.ds.length < 100000) (h : SpAt w O R p s z) : Calls Tryz.prog 39 #[.pointer (some ⟨p, 0, none⟩)] w fun e w' => e = .returned (.tuple #[.int .i64 (s.getbS).2.1, .int .i64 (s.getbS).2.2]) ∧ SpTo w w' O R p (s.getbS).1 := by
  have HA := Lib.hid (sasked_ok w h)
  have H := Lib.hid h
  by_cases he : s.e.1 = 0
  case neg =>
    have HQ := Lib.hid (getbS_9 he)
    have HE := Lib.hid (ask_9 he)
    clear h he
    go_enter Tryz.func39, Tryz.ntmps39
    go_wp2_with fail
    refine HA.out.mono ?_
    rintro e w1 ⟨rfl, r1⟩
    rw [HE.out]
    have R1 := Lib.hid r1
    have H1 := Lib.hid (H.out.fr r1)
    clear r1
    go_wp2_with fail
    go_ret2
    rw [HQ.out]
    exact ⟨rfl, H1.out.to R1.out.to⟩
  have HE := Lib.hid (ask_0 he)
  have HQ := Lib.hid (getbS_0 he)
  have HG := Lib.hid (fun w' (r' : Fr no w w') => get_ok w' (h.fr r').tape hd h.ok.il (Nat.zero_le _))
  have C := Lib.hid (fun w' (r' : Fr no w w') => (cell_of_heap (h.fr r').obj rfl : w'.cell? ⟨p, 9, none⟩ = some (.pointer (some ⟨z.t, 0, none⟩))))
  clear h he hd
  go_enter Tryz.func39, Tryz.ntmps39
  go_wp2_with fail
  refine HA.out.mono ?_
  rintro e w1 ⟨rfl, r1⟩
  rw [HE.out]
  have R1 := Lib.hid r1
  have H1 := Lib.hid (H.out.fr r1)
  clear r1
  have c9 := C.out _ R1.out
  go_wp2_with fail
  refine (HG.out _ R1.out).mono ?_
  rintro e w2 ⟨lv', rfl, ht, r2, hn⟩
  have HT := Lib.hid (H1.out.tapeS ht r2 hn)
  clear ht r2 hn
  go_wp2_with fail
  go_ret2
  rw [HQ.out]
  exact ⟨rfl, HT.out.pre R1.out⟩
set_option maxHeartbeats 1000000 in
theorem sputb_ok (w : World) (n : Int) (hd : s.ds.length < 100000) (h : SpAt w O R p s z) : Calls Tryz.prog 44 #[.pointer (some ⟨p, 0, none⟩), .int .i64 n] w fun e w' => e = .returned (.int .i64 (s.putbS n).2) ∧ SpTo w w' O R p (s.putbS n).1 := by
  have HA := Lib.hid (sasked_ok w h)
  have H := Lib.hid h
  by_cases he : s.e.1 = 0
  case neg =>
    have HQ := Lib.hid (putbS_9 he n)
    have HE := Lib.hid (ask_9 he)
    clear h he
    go_enter Tryz.func44, Tryz.ntmps44
    go_wp2_with fail
    refine HA.out.mono ?_
    rintro e w1 ⟨rfl, r1⟩
    rw [HE.out]
    have R1 := Lib.hid r1
    have H1 := Lib.hid (H.out.fr r1)
    clear r1
    go_wp2_with fail
    go_ret
    rw [HQ.out]
    exact ⟨rfl, H1.out.to R1.out.to⟩
  have HE := Lib.hid (ask_0 he)
  have HQ := Lib.hid (putbS_0 he n)
  have HG := Lib.hid (fun w' (r' : Fr no w w') => put_ok w' n (h.fr r').tape hd (Nat.zero_le _))
  have C := Lib.hid (fun w' (r' : Fr no w w') => (cell_of_heap (h.fr r').obj rfl : w'.cell? ⟨p, 9, none⟩ = some (.pointer (some ⟨z.t, 0, none⟩))))
  clear h he hd
  go_enter Tryz.func44, Tryz.ntmps44
  go_wp2_with fail
  refine HA.out.mono ?_
  rintro e w1 ⟨rfl, r1⟩
  rw [HE.out]
  have R1 := Lib.hid r1
  have H1 := Lib.hid (H.out.fr r1)
  clear r1
  have c9 := C.out _ R1.out
  go_wp2_with fail
  refine (HG.out _ R1.out).mono ?_
  rintro e w2 ⟨lv', rfl, ht, r2, hn⟩
  have HT := Lib.hid (H1.out.tapeS ht r2 hn)
  clear ht r2 hn
  go_wp2_with fail
  go_ret
  rw [HQ.out]
  exact ⟨rfl, HT.out.pre R1.out⟩

end Go.Proofs.YtihnkijeefkefaaGreat
