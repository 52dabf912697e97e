/- container/heap's up and down, Push and Pop. -/
import Derived.Test.YtofahdjnejodjaaGreatS2
set_option linter.unusedSimpArgs false
set_option linter.unusedVariables false
set_option linter.unusedSectionVars false
set_option linter.unnecessarySimpa false
namespace Go.Proofs.YtofahdjnejodjaaGreat
open Go.RowKit Go.Flow

attribute [local go_sem] Program.isFuncB Program.isSliceB

variable {w w' w'' w0 : World}

/-- what a heap's own functions keep: the numbers, in whatever order -/
structure QKept (w : World) (B sb : Nat) (st st' : List Nat) (w' : World) : Prop where
  q : QAt w' B sb st'
  len : st'.length = st.length
  mem : ∀ x, x ∈ st' ↔ x ∈ st
  fr : Fr (fun k => B ≤ k) w w'
theorem QKept.refl {B sb : Nat} {st : List Nat} (h : QAt w B sb st) : QKept w B sb st st w := ⟨h, rfl, fun _ => Iff.rfl, Fr.refl _ _⟩
theorem QKept.trans {B sb : Nat} {a b c : List Nat} (h : QKept w B sb a b w') (k : QKept w' B sb b c w'') : QKept w B sb a c w'' :=
  ⟨k.q, k.len.trans h.len, fun x => (k.mem x).trans (h.mem x), h.fr.trans k.fr⟩
theorem QKept.drawn {B sb : Nat} {a b : List Nat} (h : QKept w B sb a b w') (n : Nat) : QKept w B sb a b (w'.drewN n) := by
  have r := (Fr.refl no w').drewN n
  exact ⟨h.q.frx r (by simp) (by simp), h.len, h.mem, h.fr.drewN n⟩
theorem QKept.swap {B sb : Nat} {a l : List Nat} {xa : Option Addr} {xc i j : Nat} (h : QKept w B sb a l w') (hx : w'.heap[sb]? = some (.cells #[.slice xa l.length xc] 68 (0, 0))) (hne : (Value.slice xa l.length xc).ownBlock ≠ some sb)
    (hi : i < l.length) (hj : j < l.length) (ho : w''.ownsRow B 3 1 (.slice xa l.length xc) l.length (ints (nats (swapL l i j)))) (r : Fr (fun k => (Value.slice xa l.length xc).ownBlock = some k) w' w'') (hown : w'.ownsRow B 3 1 (.slice xa l.length xc) l.length (ints (nats l))) : QKept w B sb a (swapL l i j) w'' :=
  ⟨⟨.slice xa l.length xc, r.heap hx hne, by rw [swapL_len]; exact ho, hne⟩, (swapL_len l i j).trans h.len, fun x => (swapL_mem l i j hi hj x).trans (h.mem x), h.fr.trans (r.mono (fun k hk _ => (hown.lt k hk).1))⟩

def nOf : Value → Nat | .int _ z => z.toNat | _ => 0

set_option maxRecDepth 100000 in
set_option maxHeartbeats 8000000 in
theorem hup_ok (w : World) (B sb : Nat) (st : List Nat) (j : Nat) (h : QAt w B sb st) (hj : j < st.length) (hl : st.length ≤ 100000) :
    Calls Tryz.prog 71 #[hI sb, .int .i64 j] w fun e w' => e = .returned (.tuple #[]) ∧ ∃ st', QKept w B sb st st' w' := by
  have H0 := Lib.hid (QKept.refl h)
  clear h
  unfold hI
  go_enter Tryz.func71, Tryz.ntmps71
  go_wp2_with fail
  go_loopw [1] (fun x wr => ∃ (j : Nat) (l : List Nat), x = .int .i64 j ∧ Hid (j < l.length) ∧ Hid (QKept w B sb st l wr)) (fun x _ => nOf x)
  case atStart => exact ⟨j, st, rfl, Lib.hid hj, H0⟩
  case round =>
    obtain ⟨j, l, rfl, hjl, hq⟩ := hrel
    have hll : l.length ≤ 100000 := by rw [hq.out.len]; exact hl
    have hjl' := hjl.out
    obtain ⟨xv, hx1, hx2, hx3⟩ := hq.out.q.at'
    obtain ⟨xa, xc, rfl⟩ := owns_shape hx2
    have c1 : wr.cell? ⟨sb, 0, none⟩ = some (.slice xa l.length xc) := cell_of_heap hx1 rfl
    have HX1 := Lib.hid hx1
    have HX2 := Lib.hid hx2
    have HX3 := Lib.hid hx3
    have hM := hm_less 292 (by kernel_rfl) wr sb _ _ _ c1
    clear hx1 hx2 hx3 H0
    rcases Nat.eq_zero_or_pos j with rfl | hjp
    · have e1 : ((0 : Nat) : Int) = 0 := rfl
      go_wp2_with fail
      exact ⟨rfl, .tuple #[], by simp [results], rfl, l, hq.out⟩
    · obtain ⟨k, rfl⟩ : ∃ k, j = k + 1 := ⟨j - 1, by omega⟩
      obtain ⟨m, hm⟩ : ∃ m, m = k / 2 := ⟨_, rfl⟩
      have e1 : (k : Int) + 1 - 1 = k := by omega
      have e2 : Int.tdiv (k : Int) 2 = m := by rw [Int.tdiv_eq_ediv_of_nonneg (by omega)]; omega
      have e3 : ((m : Int) == (k : Int) + 1) = false := by simp; omega
      have hml : m < l.length := by omega
      have hmk : m < k + 1 := by omega
      clear hm
      go_wp2_with fail
      refine (wless_ok wr xa xc l (k + 1) m (owns_reads HX2.out) hjl' hml).mono ?_
      rintro e w2 ⟨rfl, q, rfl⟩
      have HK := Lib.hid (hq.out.drawn q)
      have HX1' := Lib.hid (((Fr.refl no wr).drewN q).heap HX1.out (by simp))
      have HX2' := Lib.hid (owns_fr HX2.out ((Fr.refl no wr).drewN q) (fun k hk => by simp))
      have c2 : (wr.drewN q).cell? ⟨sb, 0, none⟩ = some (.slice xa l.length xc) := cell_of_heap HX1'.out rfl
      have hM2 := hm_swap 292 (by kernel_rfl) (wr.drewN q) sb _ _ _ c2
      clear hq HX1 HX2 hM c1
      generalize wr.drewN q = w2 at *
      generalize decide (l[k + 1] < l[m]) = bb at *
      cases bb
      · go_wp2_with fail
        exact ⟨rfl, .tuple #[], by simp [results], rfl, l, HK.out⟩
      · go_wp2_with fail
        refine (wswap_ok w2 B xa xc l m (k + 1) HX2'.out hml hjl').mono ?_
        rintro e w3 ⟨rfl, o3, r3⟩
        have HK3 := Lib.hid (HK.out.swap HX1'.out HX3.out hml hjl' o3 r3 HX2'.out)
        have HL3 : Hid (m < (swapL l m (k + 1)).length) := Lib.hid (by rw [swapL_len]; exact hml)
        clear o3 r3 HX1' HX2' HX3 hM2 c2 HK
        go_wp2_with fail
        go_roundw
        case rel => exact ⟨m, _, rfl, HL3, HK3⟩
        case measure => simp [nOf]; omega

end Go.Proofs.YtofahdjnejodjaaGreat
