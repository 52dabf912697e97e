import Derived.Test.YtkgcfllbkjlfcaaO30
import Derived.Test.YtkgcfllbkjlfcaaInv
import Derived.Test.YtkgcfllbkjlfcaaLap
namespace Go.Proofs.Ytkgcfllbkjlfcaa
open Go.RowKit

attribute [local go_sem] Program.isFuncB Program.isSliceB

variable {w w' w'' w0 : World}

/-- an instruction in a block of its own -/
structure InsAt (w : World) (b : Nat) (o A B C N : Int) (u : Value) (l : List Int) : Prop where
  obj : w.heap[b]? = some (.cells #[.int .i64 o, .int .i64 A, .int .i64 B, .int .i64 C, .int .i64 N, u] 30 (0, 0))
  args : Reads w u 1 l.length (ints l)

/-- what holds while the two copies are made and laid into two variables, in whatever order -/
structure CpJ (W : World) (cA cB : Value → Array Value) (ua va : Value) (l m : List Int) (x : Nat → Value) (dn : Nat → Bool) (w : World) : Prop where
  fr : Fr no W w
  l0 : dn 0 = true → x 22 = .agg (cA ua)
  l2 : dn 2 = true → x 24 = .agg (cB va)
  c1 : dn 1 = true → ∃ u, x 23 = .agg (cA u) ∧ w.ownsRow W.heap.size 3 1 u l.length (ints l)
  c3 : dn 3 = true → ∃ u, x 25 = .agg (cB u) ∧ w.ownsRow W.heap.size 3 1 u m.length (ints m)
  a4 : dn 4 = true → ∃ b cs, x 9 = .pointer (some ⟨b, 0, none⟩) ∧ W.heap.size ≤ b ∧ w.heap[b]? = some (.cells cs 30 (0, 0)) ∧ cs.size = 6 ∧ (dn 6 = true → x 23 = .agg cs)
  a5 : dn 5 = true → ∃ b cs, x 10 = .pointer (some ⟨b, 0, none⟩) ∧ W.heap.size ≤ b ∧ w.heap[b]? = some (.cells cs 30 (0, 0)) ∧ cs.size = 6 ∧ (dn 7 = true → x 25 = .agg cs)
  ne : dn 4 = true → dn 5 = true → x 9 ≠ x 10
  k6 : dn 6 = true → dn 1 = true ∧ dn 4 = true
  k7 : dn 7 = true → dn 3 = true ∧ dn 5 = true

section
variable {W : World} {cA cB : Value → Array Value} {ua va : Value} {l m : List Int} {x : Nat → Value} {dn : Nat → Bool}
theorem CpJ.grow (h : CpJ W cA cB ua va l m x dn w) (r : Fr no w w') : CpJ W cA cB ua va l m x dn w' := by
  refine ⟨h.fr.trans r, h.l0, h.l2, fun hd => ?_, fun hd => ?_, fun hd => ?_, fun hd => ?_, h.ne, h.k6, h.k7⟩
  · obtain ⟨u, h1, h2⟩ := h.c1 hd
    exact ⟨u, h1, owns_fr h2 r (by simp)⟩
  · obtain ⟨u, h1, h2⟩ := h.c3 hd
    exact ⟨u, h1, owns_fr h2 r (by simp)⟩
  · obtain ⟨b, cs, h1, h2, h3, h4⟩ := h.a4 hd
    exact ⟨b, cs, h1, h2, r.heap h3 (by simp), h4⟩
  · obtain ⟨b, cs, h1, h2, h3, h4⟩ := h.a5 hd
    exact ⟨b, cs, h1, h2, r.heap h3 (by simp), h4⟩
theorem row_ne {base b n : Nat} {v : Value} {xs : List Value} {cs : Array Value} (h : w.ownsRow base 3 1 v n xs) (hb : w.heap[b]? = some (.cells cs 30 (0, 0))) : ∀ k, v.ownBlock = some k → ¬ only [b] k := by
  intro k hk he
  simp at he
  subst he
  rcases h.2 with ⟨rfl, -⟩ | ⟨g, cap, cur, rfl, -, hg, -⟩
  · cases hk
  · have : g = k := by simpa [Value.ownBlock] using hk
    subst this
    rw [hb] at hg
    simp at hg
theorem CpJ.s0 (h : CpJ W cA cB ua va l m x dn w) : CpJ W cA cB ua va l m (fun k => if k = 22 then .agg (cA ua) else x k) (fun k => k == 0 || dn k) w :=
  ⟨h.fr, fun _ => rfl, h.l2, h.c1, h.c3, h.a4, h.a5, h.ne, fun h' => ⟨by simp [(h.k6 h').1], by simp [(h.k6 h').2]⟩, fun h' => ⟨by simp [(h.k7 h').1], by simp [(h.k7 h').2]⟩⟩
theorem CpJ.s2 (h : CpJ W cA cB ua va l m x dn w) : CpJ W cA cB ua va l m (fun k => if k = 24 then .agg (cB va) else x k) (fun k => k == 2 || dn k) w :=
  ⟨h.fr, h.l0, fun _ => rfl, h.c1, h.c3, h.a4, h.a5, h.ne, fun h' => ⟨by simp [(h.k6 h').1], by simp [(h.k6 h').2]⟩, fun h' => ⟨by simp [(h.k7 h').1], by simp [(h.k7 h').2]⟩⟩
theorem CpJ.s1 (h : CpJ W cA cB ua va l m x dn w) {u : Value} (ho : w.ownsRow W.heap.size 3 1 u l.length (ints l)) (h6 : dn 6 = false) : CpJ W cA cB ua va l m (fun k => if k = 23 then .agg (cA u) else x k) (fun k => k == 1 || dn k) w :=
  ⟨h.fr, h.l0, h.l2, fun _ => ⟨u, rfl, ho⟩, h.c3, fun hd => by
    obtain ⟨b, cs, h1, h2, h3, h4, _⟩ := h.a4 hd
    exact ⟨b, cs, h1, h2, h3, h4, fun h => by rw [show ((6 == 1 || dn 6) = dn 6) from rfl, h6] at h; cases h⟩, h.a5, h.ne, fun h' => ⟨by simp [(h.k6 h').1], by simp [(h.k6 h').2]⟩, fun h' => ⟨by simp [(h.k7 h').1], by simp [(h.k7 h').2]⟩⟩
theorem CpJ.s3 (h : CpJ W cA cB ua va l m x dn w) {u : Value} (ho : w.ownsRow W.heap.size 3 1 u m.length (ints m)) (h6 : dn 7 = false) : CpJ W cA cB ua va l m (fun k => if k = 25 then .agg (cB u) else x k) (fun k => k == 3 || dn k) w :=
  ⟨h.fr, h.l0, h.l2, h.c1, fun _ => ⟨u, rfl, ho⟩, h.a4, fun hd => by
    obtain ⟨b, cs, h1, h2, h3, h4, _⟩ := h.a5 hd
    exact ⟨b, cs, h1, h2, h3, h4, fun h => by rw [show ((7 == 3 || dn 7) = dn 7) from rfl, h6] at h; cases h⟩, h.ne, fun h' => ⟨by simp [(h.k6 h').1], by simp [(h.k6 h').2]⟩, fun h' => ⟨by simp [(h.k7 h').1], by simp [(h.k7 h').2]⟩⟩
theorem CpJ.s4 (h : CpJ W cA cB ua va l m x dn w) {cs : Array Value} (hz : cs.size = 6) (h6 : dn 6 = false) : CpJ W cA cB ua va l m (fun k => if k = 9 then .pointer (some ⟨w.heap.size, 0, none⟩) else x k) (fun k => k == 4 || dn k) (w.alloc (.cells cs 30)) := by
  have g := h.grow ((Fr.refl no w).alloc (.cells cs 30))
  refine ⟨g.fr, g.l0, g.l2, g.c1, g.c3, fun _ => ⟨w.heap.size, cs, rfl, h.fr.size, heap_new _ _, hz, fun h => by rw [show ((6 == 4 || dn 6) = dn 6) from rfl, h6] at h; cases h⟩, g.a5, fun _ hd he => ?_, fun h' => ⟨by simp [(h.k6 h').1], by simp [(h.k6 h').2]⟩, fun h' => ⟨by simp [(h.k7 h').1], by simp [(h.k7 h').2]⟩⟩
  obtain ⟨b, cs', h1, h2, h3, _⟩ := h.a5 hd
  have he' : Value.pointer (some ⟨w.heap.size, 0, none⟩) = x 10 := he
  rw [h1] at he'
  simp at he'
  have := (Array.getElem?_eq_some_iff.1 h3).1
  omega
theorem CpJ.s5 (h : CpJ W cA cB ua va l m x dn w) {cs : Array Value} (hz : cs.size = 6) (h6 : dn 7 = false) : CpJ W cA cB ua va l m (fun k => if k = 10 then .pointer (some ⟨w.heap.size, 0, none⟩) else x k) (fun k => k == 5 || dn k) (w.alloc (.cells cs 30)) := by
  have g := h.grow ((Fr.refl no w).alloc (.cells cs 30))
  refine ⟨g.fr, g.l0, g.l2, g.c1, g.c3, g.a4, fun _ => ⟨w.heap.size, cs, rfl, h.fr.size, heap_new _ _, hz, fun h => by rw [show ((7 == 5 || dn 7) = dn 7) from rfl, h6] at h; cases h⟩, fun hd _ he => ?_, fun h' => ⟨by simp [(h.k6 h').1], by simp [(h.k6 h').2]⟩, fun h' => ⟨by simp [(h.k7 h').1], by simp [(h.k7 h').2]⟩⟩
  obtain ⟨b, cs', h1, h2, h3, _⟩ := h.a4 hd
  have he' : x 9 = Value.pointer (some ⟨w.heap.size, 0, none⟩) := he
  rw [h1] at he'
  simp at he'
  have := (Array.getElem?_eq_some_iff.1 h3).1
  omega
theorem CpJ.store9 (h : CpJ W cA cB ua va l m x dn w) {b : Nat} {cs new : Array Value} (hb : w.heap[b]? = some (.cells cs 30 (0, 0))) (hx : x 9 = .pointer (some ⟨b, 0, none⟩)) (hW : W.heap.size ≤ b) (hn : new.size = 6) (hx3 : x 23 = .agg new) (d1 : dn 1 = true) (d5 : dn 4 = true) :
    CpJ W cA cB ua va l m x (fun k => k == 6 || dn k) (w.setRow b new) := by
  have r : Fr (only [b]) w (w.setRow b new) := fr_setRow (Fr.refl _ w) (.inl (by simp))
  refine ⟨fr_setRow h.fr (.inr hW), h.l0, h.l2, fun hd => ?_, fun hd => ?_, fun hd => ?_, fun hd => ?_, h.ne, fun _ => ⟨by simp [d1], by simp [d5]⟩, fun h' => ⟨by simp [(h.k7 h').1], by simp [(h.k7 h').2]⟩⟩
  · obtain ⟨u, h1, h2⟩ := h.c1 hd
    exact ⟨u, h1, owns_fr h2 r (row_ne h2 hb)⟩
  · obtain ⟨u, h1, h2⟩ := h.c3 hd
    exact ⟨u, h1, owns_fr h2 r (row_ne h2 hb)⟩
  · exact ⟨b, new, hx, hW, setRow_heap w b _ new _ _ hb, hn, fun _ => hx3⟩
  · obtain ⟨b', cs', h1, h2, h3, h4⟩ := h.a5 hd
    refine ⟨b', cs', h1, h2, r.heap h3 (fun he => ?_), h4⟩
    simp at he
    subst he
    exact h.ne d5 hd (hx.trans h1.symm)
theorem CpJ.store10 (h : CpJ W cA cB ua va l m x dn w) {b : Nat} {cs new : Array Value} (hb : w.heap[b]? = some (.cells cs 30 (0, 0))) (hx : x 10 = .pointer (some ⟨b, 0, none⟩)) (hW : W.heap.size ≤ b) (hn : new.size = 6) (hx3 : x 25 = .agg new) (d3 : dn 3 = true) (d5 : dn 5 = true) :
    CpJ W cA cB ua va l m x (fun k => k == 7 || dn k) (w.setRow b new) := by
  have r : Fr (only [b]) w (w.setRow b new) := fr_setRow (Fr.refl _ w) (.inl (by simp))
  refine ⟨fr_setRow h.fr (.inr hW), h.l0, h.l2, fun hd => ?_, fun hd => ?_, fun hd => ?_, fun hd => ?_, h.ne, fun h' => ⟨by simp [(h.k6 h').1], by simp [(h.k6 h').2]⟩, fun _ => ⟨by simp [d3], by simp [d5]⟩⟩
  · obtain ⟨u, h1, h2⟩ := h.c1 hd
    exact ⟨u, h1, owns_fr h2 r (row_ne h2 hb)⟩
  · obtain ⟨u, h1, h2⟩ := h.c3 hd
    exact ⟨u, h1, owns_fr h2 r (row_ne h2 hb)⟩
  · obtain ⟨b', cs', h1, h2, h3, h4⟩ := h.a4 hd
    refine ⟨b', cs', h1, h2, r.heap h3 (fun he => ?_), h4⟩
    simp at he
    subst he
    exact h.ne hd d5 (h1.trans hx.symm)
  · exact ⟨b, new, hx, hW, setRow_heap w b _ new _ _ hb, hn, fun _ => hx3⟩
end

/-- four blocks as they were -/
def Four (g1 g2 g3 g4 : Nat) (c1 c2 c3 c4 : Array Value) (t : TypeId) (w : World) : Prop :=
  w.heap[g1]? = some (.cells c1 t (0, 0)) ∧ w.heap[g2]? = some (.cells c2 t (0, 0)) ∧ w.heap[g3]? = some (.cells c3 t (0, 0)) ∧ w.heap[g4]? = some (.cells c4 t (0, 0))
theorem Four.fr {g1 g2 g3 g4 : Nat} {c1 c2 c3 c4 : Array Value} {t : TypeId} (h : Four g1 g2 g3 g4 c1 c2 c3 c4 t w) (r : Fr no w w') : Four g1 g2 g3 g4 c1 c2 c3 c4 t w' :=
  ⟨r.heap h.1 (by simp), r.heap h.2.1 (by simp), r.heap h.2.2.1 (by simp), r.heap h.2.2.2 (by simp)⟩

set_option maxRecDepth 100000 in
set_option maxHeartbeats 8000000 in
theorem opchecks_ok (w : World) (o A B C N o' A' B' C' N' regs area : Int) (u v : Value) (l m : List Int) (hu : Reads w u 1 l.length (ints l)) (hv : Reads w v 1 m.length (ints m)) (hl : l.length ≤ 9223372036854775807) (hm : m.length ≤ 9223372036854775807) :
    Calls Try.prog 6 #[insV o A B C N u, insV o' A' B' C' N' v, .int .i64 regs, .int .i64 area] w fun e w' => e = .returned (.bool true) ∧ Fr no w w' := by
  obtain ⟨ua, uc, rfl⟩ := hu.shape
  obtain ⟨va, vc, rfl⟩ := hv.shape
  have r0 : Fr no w ((w.alloc (.cells #[.int .i64 o, .int .i64 A, .int .i64 B, .int .i64 C, .int .i64 N, .slice ua l.length uc] 30)).alloc (.cells #[.int .i64 o', .int .i64 A', .int .i64 B', .int .i64 C', .int .i64 N', .slice va m.length vc] 30)) := ((Fr.refl no w).alloc _).alloc _
  have HA := Lib.hid (heap_new2 w (.cells #[.int .i64 o, .int .i64 A, .int .i64 B, .int .i64 C, .int .i64 N, .slice ua l.length uc] 30) (.cells #[.int .i64 o', .int .i64 A', .int .i64 B', .int .i64 C', .int .i64 N', .slice va m.length vc] 30))
  have HB := Lib.hid (heap_new2' w (.cells #[.int .i64 o, .int .i64 A, .int .i64 B, .int .i64 C, .int .i64 N, .slice ua l.length uc] 30) (.cells #[.int .i64 o', .int .i64 A', .int .i64 B', .int .i64 C', .int .i64 N', .slice va m.length vc] 30))
  have HU := Lib.hid (hu.fr r0 (by simp))
  have HV := Lib.hid (hv.fr r0 (by simp))
  have R0 := Lib.hid r0
  clear hu hv r0
  unfold insV
  by_cases h1 : (60 : Int) < l.length
  · go_enter Try.func6, Try.ntmps6
    go_wp2_with fail
    refine (awake_ok _).mono ?_
    rintro e w1 ⟨rfl, r1⟩
    have R1 := Lib.hid (R0.out.trans r1)
    clear r1
    go_wp2_with fail
    go_ret
    exact ⟨rfl, R1.out⟩
  by_cases h2 : (60 : Int) < m.length
  · go_enter Try.func6, Try.ntmps6
    go_wp2_with fail
    refine (awake_ok _).mono ?_
    rintro e w1 ⟨rfl, r1⟩
    have R1 := Lib.hid (R0.out.trans r1)
    clear r1
    go_wp2_with fail
    go_ret
    exact ⟨rfl, R1.out⟩
  have H1 := Lib.hid (show l.length ≤ 60 by omega)
  have H2 := Lib.hid (show m.length ≤ 60 by omega)
  have CP1 := Lib.hid (fun w (h : Reads w (.slice ua l.length uc) 1 l.length (ints l)) => copyins_ok w o A B C N (.slice ua l.length uc) l h (by omega))
  have CP2 := Lib.hid (fun w (h : Reads w (.slice va m.length vc) 1 m.length (ints m)) => copyins_ok w o' A' B' C' N' (.slice va m.length vc) m h (by omega))
  unfold insV at CP1 CP2
  go_enter Try.func6, Try.ntmps6
  go_upto_region 3 with (fail)
  generalize ((w.alloc (.cells #[.int .i64 o, .int .i64 A, .int .i64 B, .int .i64 C, .int .i64 N, .slice ua l.length uc] 30)).alloc (.cells #[.int .i64 o', .int .i64 A', .int .i64 B', .int .i64 C', .int .i64 N', .slice va m.length vc] 30)) = W at *
  generalize ha0 : Act.mk _ _ = a0
  have E4 : a0.eval (.tmp 4) = .pointer (some ⟨w.heap.size, 0, none⟩) := by rw [← ha0]; rfl
  have E5 : a0.eval (.tmp 5) = .pointer (some ⟨w.heap.size + 1, 0, none⟩) := by rw [← ha0]; rfl
  have SZ : a0.tmps.size = 57 := by rw [← ha0]; rfl
  have HA0 := Lib.hid ha0
  clear ha0
  refine Inv.region_over _ [22, 23, 24, 25, 9, 10] (by kernel_rfl) (by kernel_rfl) (CpJ W (fun u => #[.int .i64 o, .int .i64 A, .int .i64 B, .int .i64 C, .int .i64 N, u]) (fun u => #[.int .i64 o', .int .i64 A', .int .i64 B', .int .i64 C', .int .i64 N', u]) (.slice ua l.length uc) (.slice va m.length vc) l m) ?_ ?_ ?_
  · exact ⟨(Fr.refl no W).drew, (fun h => by cases h), (fun h => by cases h), (fun h => by cases h), (fun h => by cases h), (fun h => by cases h), (fun h => by cases h), (fun h => by cases h), (fun h => by cases h), (fun h => by cases h)⟩
  · intro x dn w1 i op hJ hop hdn hdep
    have hlt := (List.getElem?_eq_some_iff.1 hop).1
    simp only [List.length_cons, List.length_nil] at hlt
    obtain rfl | rfl | rfl | rfl | rfl | rfl | rfl | rfl : i = 0 ∨ i = 1 ∨ i = 2 ∨ i = 3 ∨ i = 4 ∨ i = 5 ∨ i = 6 ∨ i = 7 := by omega
    all_goals (cases hop)
    · refine Inv.Step.load_row _ _ rfl _ ((Inv.over_other (by decide)).trans E4) _ _ _ _ (hJ.fr.heap HA.out (by simp)) Try.underlying30 rfl (by rw [Try.infoIns]; rfl) ?_
      exact ⟨_, Inv.over_put (by decide), hJ.s0⟩
    · have d0 := hdep ⟨0, .data⟩ (by simp) rfl
      have hd6 : dn 6 = false := by
        cases h : dn 6 with
        | false => rfl
        | true => rw [(hJ.k6 h).1] at hdn; cases hdn
      refine Inv.Step.call _ _ _ rfl (fun _ _ => rfl) ?_
      rw [show Array.map (Inv.over a0 [22, 23, 24, 25, 9, 10] x).eval #[Operand.tmp 22] = #[.agg #[.int .i64 o, .int .i64 A, .int .i64 B, .int .i64 C, .int .i64 N, .slice ua l.length uc]] from by
        simp [Inv.over_slot (a := a0) (ds := [22, 23, 24, 25, 9, 10]) (x := x) (k := 22) (by decide) (by rw [SZ]; decide), hJ.l0 d0]]
      refine (CP1.out _ (HU.out.fr hJ.fr (by simp))).mono ?_
      rintro e w2 ⟨u1, rfl, ho, r⟩
      exact ⟨_, Inv.over_put (by decide), (hJ.grow r).s1 (owns_base ho (fun k hk => by have := (ho.lt k hk).1; have := hJ.fr.size; omega)) hd6⟩
    · refine Inv.Step.load_row _ _ rfl _ ((Inv.over_other (by decide)).trans E5) _ _ _ _ (hJ.fr.heap HB.out (by simp)) Try.underlying30 rfl (by rw [Try.infoIns]; rfl) ?_
      exact ⟨_, Inv.over_put (by decide), hJ.s2⟩
    · have d0 := hdep ⟨2, .data⟩ (by simp) rfl
      have hd6 : dn 7 = false := by
        cases h : dn 7 with
        | false => rfl
        | true => rw [(hJ.k7 h).1] at hdn; cases hdn
      refine Inv.Step.call _ _ _ rfl (fun _ _ => rfl) ?_
      rw [show Array.map (Inv.over a0 [22, 23, 24, 25, 9, 10] x).eval #[Operand.tmp 24] = #[.agg #[.int .i64 o', .int .i64 A', .int .i64 B', .int .i64 C', .int .i64 N', .slice va m.length vc]] from by
        simp [Inv.over_slot (a := a0) (ds := [22, 23, 24, 25, 9, 10]) (x := x) (k := 24) (by decide) (by rw [SZ]; decide), hJ.l2 d0]]
      refine (CP2.out _ (HV.out.fr hJ.fr (by simp))).mono ?_
      rintro e w2 ⟨u1, rfl, ho, r⟩
      exact ⟨_, Inv.over_put (by decide), (hJ.grow r).s3 (owns_base ho (fun k hk => by have := (ho.lt k hk).1; have := hJ.fr.size; omega)) hd6⟩
    · have hd6 : dn 6 = false := by
        cases h : dn 6 with
        | false => rfl
        | true => rw [(hJ.k6 h).2] at hdn; cases hdn
      refine Inv.Step.alloc _ (.agg #[.int .i64 0, .int .i64 0, .int .i64 0, .int .i64 0, .int .i64 0, .slice none 0 0]) rfl (by kernel_rfl) ?_
      exact ⟨_, Inv.over_put (by decide), hJ.s4 rfl hd6⟩
    · have hd6 : dn 7 = false := by
        cases h : dn 7 with
        | false => rfl
        | true => rw [(hJ.k7 h).2] at hdn; cases hdn
      refine Inv.Step.alloc _ (.agg #[.int .i64 0, .int .i64 0, .int .i64 0, .int .i64 0, .int .i64 0, .slice none 0 0]) rfl (by kernel_rfl) ?_
      exact ⟨_, Inv.over_put (by decide), hJ.s5 rfl hd6⟩
    · have d4 := hdep ⟨4, .data⟩ (by simp) rfl
      have d1 := hdep ⟨1, .data⟩ (by simp) rfl
      obtain ⟨b, cs, h1, h2, h3, h4, -⟩ := hJ.a4 d4
      obtain ⟨u1, h5, h6⟩ := hJ.c1 d1
      obtain ⟨ra, rc, rfl⟩ := owns_shape h6
      refine Inv.Step.store_row _ _ _ rfl b #[.int .i64 o, .int .i64 A, .int .i64 B, .int .i64 C, .int .i64 N, .slice ra l.length rc] ((Inv.over_slot (by decide) (by rw [SZ]; decide)).trans h1) ((Inv.over_slot (by decide) (by rw [SZ]; decide)).trans h5) _ _ h3 (by rw [Try.infoIns]; rfl) h4 (by simp [Value.oneCell']) ?_
      exact ⟨_, Inv.over_put_none, hJ.store9 h3 h1 h2 rfl h5 d1 d4⟩
    · have d4 := hdep ⟨5, .data⟩ (by simp) rfl
      have d1 := hdep ⟨3, .data⟩ (by simp) rfl
      obtain ⟨b, cs, h1, h2, h3, h4, -⟩ := hJ.a5 d4
      obtain ⟨u1, h5, h6⟩ := hJ.c3 d1
      obtain ⟨ra, rc, rfl⟩ := owns_shape h6
      refine Inv.Step.store_row _ _ _ rfl b #[.int .i64 o', .int .i64 A', .int .i64 B', .int .i64 C', .int .i64 N', .slice ra m.length rc] ((Inv.over_slot (by decide) (by rw [SZ]; decide)).trans h1) ((Inv.over_slot (by decide) (by rw [SZ]; decide)).trans h5) _ _ h3 (by rw [Try.infoIns]; rfl) h4 (by simp [Value.oneCell']) ?_
      exact ⟨_, Inv.over_put_none, hJ.store10 h3 h1 h2 rfl h5 d1 d4⟩
  · intro x dn w1 hJ hall
    have f4 := hall 4 (by decide)
    have f5 := hall 5 (by decide)
    obtain ⟨u1, h23, ho1⟩ := hJ.c1 (hall 1 (by decide))
    obtain ⟨u2, h25, ho2⟩ := hJ.c3 (hall 3 (by decide))
    obtain ⟨b9, cs9, h9, -, hb9, -, he9⟩ := hJ.a4 f4
    obtain ⟨b10, cs10, h10, -, hb10, -, he10⟩ := hJ.a5 f5
    have q9 := he9 (hall 6 (by decide))
    have q10 := he10 (hall 7 (by decide))
    rw [h23] at q9
    rw [h25] at q10
    cases q9
    cases q10
    have H9 := Lib.hid hb9
    have H10 := Lib.hid hb10
    have HA1 := Lib.hid (hJ.fr.heap HA.out (by simp))
    have HB1 := Lib.hid (hJ.fr.heap HB.out (by simp))
    have R1 := Lib.hid (R0.out.trans hJ.fr)
    have HU1 := Lib.hid (HU.out.fr hJ.fr (by simp))
    have HV1 := Lib.hid (HV.out.fr hJ.fr (by simp))
    have HX1 := Lib.hid (owns_reads ho1)
    have HX2 := Lib.hid (owns_reads ho2)
    obtain ⟨xa, xc, rfl⟩ := owns_shape ho1
    obtain ⟨ya, yc, rfl⟩ := owns_shape ho2
    unfold Inv.over
    rw [← HA0.out]
    simp only [List.foldl_cons, List.foldl_nil, List.setIfInBounds_toArray, List.set_cons_zero, List.set_cons_succ]
    rw [h9, h10]
    clear h9 h10 h23 h25 hb9 hb10 he9 he10 ho1 ho2 hJ hall f4 f5 E4 E5 SZ HA0
    generalize x 22 = x22
    generalize x 23 = x23
    generalize x 24 = x24
    generalize x 25 = x25
    go_upto_region 4 with (fail)
    have F0 : Hid (Four w.heap.size (w.heap.size + 1) b9 b10 #[.int .i64 o, .int .i64 A, .int .i64 B, .int .i64 C, .int .i64 N, .slice ua l.length uc] #[.int .i64 o', .int .i64 A', .int .i64 B', .int .i64 C', .int .i64 N', .slice va m.length vc]
      #[.int .i64 o, .int .i64 A, .int .i64 B, .int .i64 C, .int .i64 N, .slice xa l.length xc] #[.int .i64 o', .int .i64 A', .int .i64 B', .int .i64 C', .int .i64 N', .slice ya m.length yc] 30 w1.drew) := Lib.hid ⟨HA1.out, HB1.out, H9.out, H10.out⟩
    have R2 := Lib.hid R1.out.drew
    have RX1 := Lib.hid (HX1.out.fr ((Fr.refl no w1).drew) (by simp))
    have RX2 := Lib.hid (HX2.out.fr ((Fr.refl no w1).drew) (by simp))
    have RU1 := Lib.hid (HU1.out.fr ((Fr.refl no w1).drew) (by simp))
    have RV1 := Lib.hid (HV1.out.fr ((Fr.refl no w1).drew) (by simp))
    clear HA1 HB1 H9 H10 HX1 HX2 HU1 HV1 R1
    have C1 := Lib.hid (fun w (h : Reads w (.slice xa l.length xc) 1 l.length (ints l)) => check_ok w o A B C N regs area (.slice xa l.length xc) l h (by have := H1.out; omega))
    have C2 := Lib.hid (fun w (h : Reads w (.slice ua l.length uc) 1 l.length (ints l)) => refcheck_ok w o A B C N regs area (.slice ua l.length uc) l h (by have := H1.out; omega))
    have C3 := Lib.hid (fun w (h : Reads w (.slice xa l.length xc) 1 l.length (ints l)) (k : Reads w (.slice ya m.length yc) 1 m.length (ints m)) => same_ok w o A B C N o' A' B' C' N' (.slice xa l.length xc) (.slice ya m.length yc) l m h k hl hm)
    have C4 := Lib.hid (fun w (h : Reads w (.slice ua l.length uc) 1 l.length (ints l)) (k : Reads w (.slice va m.length vc) 1 m.length (ints m)) => refsame_ok w o A B C N o' A' B' C' N' (.slice ua l.length uc) (.slice va m.length vc) l m h k hl hm)
    have C5 := Lib.hid (fun w (h : Reads w (.slice xa l.length xc) 1 l.length (ints l)) (k : Reads w (.slice ua l.length uc) 1 l.length (ints l)) => by
      have := sameins_ok w o A B C N o A B C N (.slice xa l.length xc) (.slice ua l.length uc) l l h k (by have := H1.out; omega)
      rw [decide_eq_true ⟨rfl, rfl, rfl, rfl, rfl, rfl⟩] at this
      exact this)
    have C6 := Lib.hid (fun w (h : Reads w (.slice ya m.length yc) 1 m.length (ints m)) (k : Reads w (.slice va m.length vc) 1 m.length (ints m)) => by
      have := sameins_ok w o' A' B' C' N' o' A' B' C' N' (.slice ya m.length yc) (.slice va m.length vc) m m h k (by have := H2.out; omega)
      rw [decide_eq_true ⟨rfl, rfl, rfl, rfl, rfl, rfl⟩] at this
      exact this)
    unfold insV at C1 C2 C3 C4 C5 C6
    generalize checkOf o A B C N l regs area = ck at *
    generalize decide (o = o' ∧ A = A' ∧ B = B' ∧ C = C' ∧ N = N' ∧ l = m) = sb at *
    have e1 : (ck == ck) = true := by simp
    have e2 : (sb == sb) = true := by simp
    refine Lex.region [3, 7, 12, 15, 21, 26, 29] [32] (by kernel_rfl) (by kernel_rfl) ?_
    refine Lex.opens (Four w.heap.size (w.heap.size + 1) b9 b10 _ _ _ _ 30) (F0.out) ?_
    repeat (first
      | (refine Lex.skips (by rfl) ?_; (try simp only [Act.put, List.setIfInBounds_toArray, List.set_cons_zero, List.set_cons_succ]))
      | (refine Lex.row (by rfl) (by rfl) _ _ rfl _ rfl _ _ _ _ ((fun w' h => h.1)) Try.underlying30 rfl (by rw [Try.infoIns]; rfl) ?_; (try simp only [Act.put, List.setIfInBounds_toArray, List.set_cons_zero, List.set_cons_succ]))
      | (refine Lex.row (by rfl) (by rfl) _ _ rfl _ rfl _ _ _ _ ((fun w' h => h.2.1)) Try.underlying30 rfl (by rw [Try.infoIns]; rfl) ?_; (try simp only [Act.put, List.setIfInBounds_toArray, List.set_cons_zero, List.set_cons_succ]))
      | (refine Lex.row (by rfl) (by rfl) _ _ rfl _ rfl _ _ _ _ ((fun w' h => h.2.2.1)) Try.underlying30 rfl (by rw [Try.infoIns]; rfl) ?_; (try simp only [Act.put, List.setIfInBounds_toArray, List.set_cons_zero, List.set_cons_succ]))
      | (refine Lex.row (by rfl) (by rfl) _ _ rfl _ rfl _ _ _ _ ((fun w' h => h.2.2.2)) Try.underlying30 rfl (by rw [Try.infoIns]; rfl) ?_; (try simp only [Act.put, List.setIfInBounds_toArray, List.set_cons_zero, List.set_cons_succ]))
      | (refine Lex.quiet (v := ?_) (by rfl) (by rfl) ?_ ?_; rotate_left; (focus (intro w' hS'; go_simp; try rfl)); (try simp only [Act.put, List.setIfInBounds_toArray, List.set_cons_zero, List.set_cons_succ])))
    refine Lex.loud (by rfl) (by rfl) ?_
    intro K' hK'
    go_simp
    refine (C1.out _ RX1.out).mono ?_
    rintro e wa ⟨rfl, ra⟩
    have Fa := Lib.hid (F0.out.fr ra)
    have Ra := Lib.hid (R2.out.trans ra)
    have RUa := Lib.hid (RU1.out.fr ra (by simp))
    have RVa := Lib.hid (RV1.out.fr ra (by simp))
    have RXa := Lib.hid (RX1.out.fr ra (by simp))
    have RYa := Lib.hid (RX2.out.fr ra (by simp))
    clear ra
    refine hK' _ _ (Fa.out) ?_
    clear hK'
    try simp only [Act.put, List.setIfInBounds_toArray, List.set_cons_zero, List.set_cons_succ]
    repeat (first
      | (refine Lex.skips (by rfl) ?_; (try simp only [Act.put, List.setIfInBounds_toArray, List.set_cons_zero, List.set_cons_succ]))
      | (refine Lex.row (by rfl) (by rfl) _ _ rfl _ rfl _ _ _ _ ((fun w' h => h.1)) Try.underlying30 rfl (by rw [Try.infoIns]; rfl) ?_; (try simp only [Act.put, List.setIfInBounds_toArray, List.set_cons_zero, List.set_cons_succ]))
      | (refine Lex.row (by rfl) (by rfl) _ _ rfl _ rfl _ _ _ _ ((fun w' h => h.2.1)) Try.underlying30 rfl (by rw [Try.infoIns]; rfl) ?_; (try simp only [Act.put, List.setIfInBounds_toArray, List.set_cons_zero, List.set_cons_succ]))
      | (refine Lex.row (by rfl) (by rfl) _ _ rfl _ rfl _ _ _ _ ((fun w' h => h.2.2.1)) Try.underlying30 rfl (by rw [Try.infoIns]; rfl) ?_; (try simp only [Act.put, List.setIfInBounds_toArray, List.set_cons_zero, List.set_cons_succ]))
      | (refine Lex.row (by rfl) (by rfl) _ _ rfl _ rfl _ _ _ _ ((fun w' h => h.2.2.2)) Try.underlying30 rfl (by rw [Try.infoIns]; rfl) ?_; (try simp only [Act.put, List.setIfInBounds_toArray, List.set_cons_zero, List.set_cons_succ]))
      | (refine Lex.quiet (v := ?_) (by rfl) (by rfl) ?_ ?_; rotate_left; (focus (intro w' hS'; go_simp; try rfl)); (try simp only [Act.put, List.setIfInBounds_toArray, List.set_cons_zero, List.set_cons_succ])))
    refine Lex.loud (by rfl) (by rfl) ?_
    intro K' hK'
    go_simp
    refine (C2.out _ RUa.out).mono ?_
    rintro e wb ⟨rfl, ra⟩
    have Fb := Lib.hid (Fa.out.fr ra)
    have Rb := Lib.hid (Ra.out.trans ra)
    have RUb := Lib.hid (RUa.out.fr ra (by simp))
    have RVb := Lib.hid (RVa.out.fr ra (by simp))
    have RXb := Lib.hid (RXa.out.fr ra (by simp))
    have RYb := Lib.hid (RYa.out.fr ra (by simp))
    clear ra
    refine hK' _ _ (Fb.out) ?_
    clear hK'
    try simp only [Act.put, List.setIfInBounds_toArray, List.set_cons_zero, List.set_cons_succ]
    repeat (first
      | (refine Lex.skips (by rfl) ?_; (try simp only [Act.put, List.setIfInBounds_toArray, List.set_cons_zero, List.set_cons_succ]))
      | (refine Lex.row (by rfl) (by rfl) _ _ rfl _ rfl _ _ _ _ ((fun w' h => h.1)) Try.underlying30 rfl (by rw [Try.infoIns]; rfl) ?_; (try simp only [Act.put, List.setIfInBounds_toArray, List.set_cons_zero, List.set_cons_succ]))
      | (refine Lex.row (by rfl) (by rfl) _ _ rfl _ rfl _ _ _ _ ((fun w' h => h.2.1)) Try.underlying30 rfl (by rw [Try.infoIns]; rfl) ?_; (try simp only [Act.put, List.setIfInBounds_toArray, List.set_cons_zero, List.set_cons_succ]))
      | (refine Lex.row (by rfl) (by rfl) _ _ rfl _ rfl _ _ _ _ ((fun w' h => h.2.2.1)) Try.underlying30 rfl (by rw [Try.infoIns]; rfl) ?_; (try simp only [Act.put, List.setIfInBounds_toArray, List.set_cons_zero, List.set_cons_succ]))
      | (refine Lex.row (by rfl) (by rfl) _ _ rfl _ rfl _ _ _ _ ((fun w' h => h.2.2.2)) Try.underlying30 rfl (by rw [Try.infoIns]; rfl) ?_; (try simp only [Act.put, List.setIfInBounds_toArray, List.set_cons_zero, List.set_cons_succ]))
      | (refine Lex.quiet (v := ?_) (by rfl) (by rfl) ?_ ?_; rotate_left; (focus (intro w' hS'; go_simp; try rfl)); (try simp only [Act.put, List.setIfInBounds_toArray, List.set_cons_zero, List.set_cons_succ])))
    refine Lex.loud (by rfl) (by rfl) ?_
    intro K' hK'
    go_simp
    refine (C3.out _ RXb.out RYb.out).mono ?_
    rintro e wc ⟨rfl, ra⟩
    have Fc := Lib.hid (Fb.out.fr ra)
    have Rc := Lib.hid (Rb.out.trans ra)
    have RUc := Lib.hid (RUb.out.fr ra (by simp))
    have RVc := Lib.hid (RVb.out.fr ra (by simp))
    have RXc := Lib.hid (RXb.out.fr ra (by simp))
    have RYc := Lib.hid (RYb.out.fr ra (by simp))
    clear ra
    refine hK' _ _ (Fc.out) ?_
    clear hK'
    try simp only [Act.put, List.setIfInBounds_toArray, List.set_cons_zero, List.set_cons_succ]
    repeat (first
      | (refine Lex.skips (by rfl) ?_; (try simp only [Act.put, List.setIfInBounds_toArray, List.set_cons_zero, List.set_cons_succ]))
      | (refine Lex.row (by rfl) (by rfl) _ _ rfl _ rfl _ _ _ _ ((fun w' h => h.1)) Try.underlying30 rfl (by rw [Try.infoIns]; rfl) ?_; (try simp only [Act.put, List.setIfInBounds_toArray, List.set_cons_zero, List.set_cons_succ]))
      | (refine Lex.row (by rfl) (by rfl) _ _ rfl _ rfl _ _ _ _ ((fun w' h => h.2.1)) Try.underlying30 rfl (by rw [Try.infoIns]; rfl) ?_; (try simp only [Act.put, List.setIfInBounds_toArray, List.set_cons_zero, List.set_cons_succ]))
      | (refine Lex.row (by rfl) (by rfl) _ _ rfl _ rfl _ _ _ _ ((fun w' h => h.2.2.1)) Try.underlying30 rfl (by rw [Try.infoIns]; rfl) ?_; (try simp only [Act.put, List.setIfInBounds_toArray, List.set_cons_zero, List.set_cons_succ]))
      | (refine Lex.row (by rfl) (by rfl) _ _ rfl _ rfl _ _ _ _ ((fun w' h => h.2.2.2)) Try.underlying30 rfl (by rw [Try.infoIns]; rfl) ?_; (try simp only [Act.put, List.setIfInBounds_toArray, List.set_cons_zero, List.set_cons_succ]))
      | (refine Lex.quiet (v := ?_) (by rfl) (by rfl) ?_ ?_; rotate_left; (focus (intro w' hS'; go_simp; try rfl)); (try simp only [Act.put, List.setIfInBounds_toArray, List.set_cons_zero, List.set_cons_succ])))
    refine Lex.loud (by rfl) (by rfl) ?_
    intro K' hK'
    go_simp
    refine (C4.out _ RUc.out RVc.out).mono ?_
    rintro e wd ⟨rfl, ra⟩
    have Fd := Lib.hid (Fc.out.fr ra)
    have Rd := Lib.hid (Rc.out.trans ra)
    have RUd := Lib.hid (RUc.out.fr ra (by simp))
    have RVd := Lib.hid (RVc.out.fr ra (by simp))
    have RXd := Lib.hid (RXc.out.fr ra (by simp))
    have RYd := Lib.hid (RYc.out.fr ra (by simp))
    clear ra
    refine hK' _ _ (Fd.out) ?_
    clear hK'
    try simp only [Act.put, List.setIfInBounds_toArray, List.set_cons_zero, List.set_cons_succ]
    repeat (first
      | (refine Lex.skips (by rfl) ?_; (try simp only [Act.put, List.setIfInBounds_toArray, List.set_cons_zero, List.set_cons_succ]))
      | (refine Lex.row (by rfl) (by rfl) _ _ rfl _ rfl _ _ _ _ ((fun w' h => h.1)) Try.underlying30 rfl (by rw [Try.infoIns]; rfl) ?_; (try simp only [Act.put, List.setIfInBounds_toArray, List.set_cons_zero, List.set_cons_succ]))
      | (refine Lex.row (by rfl) (by rfl) _ _ rfl _ rfl _ _ _ _ ((fun w' h => h.2.1)) Try.underlying30 rfl (by rw [Try.infoIns]; rfl) ?_; (try simp only [Act.put, List.setIfInBounds_toArray, List.set_cons_zero, List.set_cons_succ]))
      | (refine Lex.row (by rfl) (by rfl) _ _ rfl _ rfl _ _ _ _ ((fun w' h => h.2.2.1)) Try.underlying30 rfl (by rw [Try.infoIns]; rfl) ?_; (try simp only [Act.put, List.setIfInBounds_toArray, List.set_cons_zero, List.set_cons_succ]))
      | (refine Lex.row (by rfl) (by rfl) _ _ rfl _ rfl _ _ _ _ ((fun w' h => h.2.2.2)) Try.underlying30 rfl (by rw [Try.infoIns]; rfl) ?_; (try simp only [Act.put, List.setIfInBounds_toArray, List.set_cons_zero, List.set_cons_succ]))
      | (refine Lex.quiet (v := ?_) (by rfl) (by rfl) ?_ ?_; rotate_left; (focus (intro w' hS'; go_simp; try rfl)); (try simp only [Act.put, List.setIfInBounds_toArray, List.set_cons_zero, List.set_cons_succ])))
    refine Lex.loud (by rfl) (by rfl) ?_
    intro K' hK'
    go_simp
    refine (C5.out _ RXd.out RUd.out).mono ?_
    rintro e we ⟨rfl, ra⟩
    have Fe := Lib.hid (Fd.out.fr ra)
    have Re := Lib.hid (Rd.out.trans ra)
    have RUe := Lib.hid (RUd.out.fr ra (by simp))
    have RVe := Lib.hid (RVd.out.fr ra (by simp))
    have RXe := Lib.hid (RXd.out.fr ra (by simp))
    have RYe := Lib.hid (RYd.out.fr ra (by simp))
    clear ra
    refine hK' _ _ (Fe.out) ?_
    clear hK'
    try simp only [Act.put, List.setIfInBounds_toArray, List.set_cons_zero, List.set_cons_succ]
    repeat (first
      | (refine Lex.skips (by rfl) ?_; (try simp only [Act.put, List.setIfInBounds_toArray, List.set_cons_zero, List.set_cons_succ]))
      | (refine Lex.row (by rfl) (by rfl) _ _ rfl _ rfl _ _ _ _ ((fun w' h => h.1)) Try.underlying30 rfl (by rw [Try.infoIns]; rfl) ?_; (try simp only [Act.put, List.setIfInBounds_toArray, List.set_cons_zero, List.set_cons_succ]))
      | (refine Lex.row (by rfl) (by rfl) _ _ rfl _ rfl _ _ _ _ ((fun w' h => h.2.1)) Try.underlying30 rfl (by rw [Try.infoIns]; rfl) ?_; (try simp only [Act.put, List.setIfInBounds_toArray, List.set_cons_zero, List.set_cons_succ]))
      | (refine Lex.row (by rfl) (by rfl) _ _ rfl _ rfl _ _ _ _ ((fun w' h => h.2.2.1)) Try.underlying30 rfl (by rw [Try.infoIns]; rfl) ?_; (try simp only [Act.put, List.setIfInBounds_toArray, List.set_cons_zero, List.set_cons_succ]))
      | (refine Lex.row (by rfl) (by rfl) _ _ rfl _ rfl _ _ _ _ ((fun w' h => h.2.2.2)) Try.underlying30 rfl (by rw [Try.infoIns]; rfl) ?_; (try simp only [Act.put, List.setIfInBounds_toArray, List.set_cons_zero, List.set_cons_succ]))
      | (refine Lex.quiet (v := ?_) (by rfl) (by rfl) ?_ ?_; rotate_left; (focus (intro w' hS'; go_simp; try rfl)); (try simp only [Act.put, List.setIfInBounds_toArray, List.set_cons_zero, List.set_cons_succ])))
    refine Lex.loud (by rfl) (by rfl) ?_
    intro K' hK'
    go_simp
    refine (C6.out _ RYe.out RVe.out).mono ?_
    rintro e wf ⟨rfl, ra⟩
    have Ff := Lib.hid (Fe.out.fr ra)
    have Rf := Lib.hid (Re.out.trans ra)
    have RUf := Lib.hid (RUe.out.fr ra (by simp))
    have RVf := Lib.hid (RVe.out.fr ra (by simp))
    have RXf := Lib.hid (RXe.out.fr ra (by simp))
    have RYf := Lib.hid (RYe.out.fr ra (by simp))
    clear ra
    refine hK' _ _ (Ff.out) ?_
    clear hK'
    try simp only [Act.put, List.setIfInBounds_toArray, List.set_cons_zero, List.set_cons_succ]
    repeat (first
      | (refine Lex.skips (by rfl) ?_; (try simp only [Act.put, List.setIfInBounds_toArray, List.set_cons_zero, List.set_cons_succ]))
      | (refine Lex.row (by rfl) (by rfl) _ _ rfl _ rfl _ _ _ _ ((fun w' h => h.1)) Try.underlying30 rfl (by rw [Try.infoIns]; rfl) ?_; (try simp only [Act.put, List.setIfInBounds_toArray, List.set_cons_zero, List.set_cons_succ]))
      | (refine Lex.row (by rfl) (by rfl) _ _ rfl _ rfl _ _ _ _ ((fun w' h => h.2.1)) Try.underlying30 rfl (by rw [Try.infoIns]; rfl) ?_; (try simp only [Act.put, List.setIfInBounds_toArray, List.set_cons_zero, List.set_cons_succ]))
      | (refine Lex.row (by rfl) (by rfl) _ _ rfl _ rfl _ _ _ _ ((fun w' h => h.2.2.1)) Try.underlying30 rfl (by rw [Try.infoIns]; rfl) ?_; (try simp only [Act.put, List.setIfInBounds_toArray, List.set_cons_zero, List.set_cons_succ]))
      | (refine Lex.row (by rfl) (by rfl) _ _ rfl _ rfl _ _ _ _ ((fun w' h => h.2.2.2)) Try.underlying30 rfl (by rw [Try.infoIns]; rfl) ?_; (try simp only [Act.put, List.setIfInBounds_toArray, List.set_cons_zero, List.set_cons_succ]))
      | (refine Lex.quiet (v := ?_) (by rfl) (by rfl) ?_ ?_; rotate_left; (focus (intro w' hS'; go_simp; try rfl)); (try simp only [Act.put, List.setIfInBounds_toArray, List.set_cons_zero, List.set_cons_succ])))
    refine Lex.loud (by rfl) (by rfl) ?_
    intro K' hK'
    go_simp
    refine (awake_ok _).mono ?_
    rintro e wg ⟨rfl, ra⟩
    have Fg := Lib.hid (Ff.out.fr ra)
    have Rg := Lib.hid (Rf.out.trans ra)
    have RUg := Lib.hid (RUf.out.fr ra (by simp))
    have RVg := Lib.hid (RVf.out.fr ra (by simp))
    have RXg := Lib.hid (RXf.out.fr ra (by simp))
    have RYg := Lib.hid (RYf.out.fr ra (by simp))
    clear ra
    refine hK' _ _ (Fg.out) ?_
    clear hK'
    try simp only [Act.put, List.setIfInBounds_toArray, List.set_cons_zero, List.set_cons_succ]
    repeat (first
      | (refine Lex.skips (by rfl) ?_; (try simp only [Act.put, List.setIfInBounds_toArray, List.set_cons_zero, List.set_cons_succ]))
      | (refine Lex.row (by rfl) (by rfl) _ _ rfl _ rfl _ _ _ _ ((fun w' h => h.1)) Try.underlying30 rfl (by rw [Try.infoIns]; rfl) ?_; (try simp only [Act.put, List.setIfInBounds_toArray, List.set_cons_zero, List.set_cons_succ]))
      | (refine Lex.row (by rfl) (by rfl) _ _ rfl _ rfl _ _ _ _ ((fun w' h => h.2.1)) Try.underlying30 rfl (by rw [Try.infoIns]; rfl) ?_; (try simp only [Act.put, List.setIfInBounds_toArray, List.set_cons_zero, List.set_cons_succ]))
      | (refine Lex.row (by rfl) (by rfl) _ _ rfl _ rfl _ _ _ _ ((fun w' h => h.2.2.1)) Try.underlying30 rfl (by rw [Try.infoIns]; rfl) ?_; (try simp only [Act.put, List.setIfInBounds_toArray, List.set_cons_zero, List.set_cons_succ]))
      | (refine Lex.row (by rfl) (by rfl) _ _ rfl _ rfl _ _ _ _ ((fun w' h => h.2.2.2)) Try.underlying30 rfl (by rw [Try.infoIns]; rfl) ?_; (try simp only [Act.put, List.setIfInBounds_toArray, List.set_cons_zero, List.set_cons_succ]))
      | (refine Lex.quiet (v := ?_) (by rfl) (by rfl) ?_ ?_; rotate_left; (focus (intro w' hS'; go_simp; try rfl)); (try simp only [Act.put, List.setIfInBounds_toArray, List.set_cons_zero, List.set_cons_succ])))
    refine Lex.done ?_
    refine Lex.ends ?_
    go_wp2_with fail
    go_ret
    exact ⟨rfl, Rg.out⟩

theorem opchecks_rd (w : World) (s0 s1 : Array Value) {n0 n1 : Nat} {d0 d1 : Dt} (h0 : Rd Try.prog w n0 30 s0.toList d0) (h1 : Rd Try.prog w n1 30 s1.toList d1) (regs area : Int) :
    Calls Try.prog 6 #[.agg s0, .agg s1, .int .i64 regs, .int .i64 area] w fun e w' => e = .returned (.bool true) ∧ Fr no w w' := by
  obtain ⟨o, A, B, C, N, u, l, hs, hr, hm, -⟩ := ins_of h0
  obtain rfl : s0 = #[.int .i64 o, .int .i64 A, .int .i64 B, .int .i64 C, .int .i64 N, u] := Array.ext' hs
  obtain ⟨o', A', B', C', N', v, m, hs', hr', hm', -⟩ := ins_of h1
  obtain rfl : s1 = #[.int .i64 o', .int .i64 A', .int .i64 B', .int .i64 C', .int .i64 N', v] := Array.ext' hs'
  exact opchecks_ok w o A B C N o' A' B' C' N' regs area u v l m hr hr' (by unfold maxLen at hm; exact hm) (by unfold maxLen at hm'; exact hm')

end Go.Proofs.Ytkgcfllbkjlfcaa
