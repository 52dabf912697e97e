import Derived.Test.YtpgmfifieilhkaaK7
import Derived.Test.YtpgmfifieilhkaaRd
namespace Go.Proofs.Ytpgmfifieilhkaa
open Go.RowKit

attribute [local go_sem] Program.isFuncB Program.isSliceB

variable {w w' w'' : World} {words : Nat} {P P' P'' : List (Nat × List Nat)} {s s' : CS} {r r' : RS}

/-! ### Puts that are handed in -/
abbrev Acts := List (Int × List Nat)

structure ActAt (w : World) (sa : Option Addr) (i : Nat) (f : Int) (ws : List Nat) (b o : Nat) (xa : Option Addr) (xc : Nat) : Prop where
  hsa : sa = some ⟨b, o, none⟩
  hf : w.cell? ⟨b, o + i * 2, none⟩ = some (.int .i64 f)
  hw : w.cell? ⟨b, o + i * 2 + 1, none⟩ = some (.slice xa ws.length xc)
  r : Reads w (.slice xa ws.length xc) 1 ws.length (u32s ws)
  lt : ∀ n ∈ ws, n < 4294967296
  few : ws.length ≤ maxLen

def ActsAt (w : World) (sa : Option Addr) (L : Acts) : Prop :=
  ∀ i (h : i < L.length), ∃ b o xa xc, ActAt w sa i L[i].1 L[i].2 b o xa xc

theorem nats_of : ∀ (zs : List Int), (∀ z ∈ zs, (Lit.int .u32 z).wf = true) → ∃ ws : List Nat, zs.map (Value.int .u32) = u32s ws ∧ ws.length = zs.length ∧ ∀ n ∈ ws, n < 4294967296
  | [], _ => ⟨[], rfl, rfl, by simp⟩
  | z :: zs, h => by
    obtain ⟨ws, h1, h2, h3⟩ := nats_of zs fun x hx => h x (List.mem_cons_of_mem _ hx)
    have h4 : IntKind.u32.min ≤ z ∧ z ≤ IntKind.u32.max := by simpa [Lit.wf] using h z (List.mem_cons_self ..)
    have h5 : IntKind.u32.min = 0 := by decide
    have h6 : IntKind.u32.max = 4294967295 := by decide
    refine ⟨z.toNat :: ws, ?_, by simp [h2], fun n hn => ?_⟩
    · simp only [List.map_cons, h1, u32s]
      rw [Int.toNat_of_nonneg (by omega)]
    · rcases List.mem_cons.1 hn with rfl | hn
      · omega
      · exact h3 n hn

theorem cells3 : Try.prog.cellsOf 3 = 1 := by kernel_rfl
theorem cells23 : Try.prog.cellsOf 23 = 1 := by kernel_rfl
theorem cells25 : Try.prog.cellsOf 25 = 2 := by kernel_rfl
theorem cells52 : Try.prog.cellsOf 52 = 1 := by kernel_rfl

theorem act_of {n : Nat} {es : List Value} {d : Dt} (h : Rd Try.prog w n 25 es d) : ∃ f xa xc ws, es = [.int .i64 f, .slice xa ws.length xc] ∧ Reads w (.slice xa ws.length xc) 1 ws.length (u32s ws) ∧ (∀ n ∈ ws, n < 4294967296) ∧ ws.length ≤ maxLen := by
  obtain ⟨l, _, hl, _, h3⟩ := h.fields Try.underlying25 cells25
  obtain ⟨c0, c1, rfl⟩ := len_two es hl
  obtain ⟨d0, _, k0⟩ := h3 0 3 0 1 (by rfl) cells3
  obtain ⟨d1, _, k1⟩ := h3 1 23 1 1 (by rfl) cells23
  simp only [List.drop_zero, List.take_succ_cons, List.take_zero, List.drop_succ_cons] at k0 k1
  obtain ⟨f, hf, _, _⟩ := k0.int Try.underlying3
  obtain ⟨zs, _, hr, hw, hm⟩ := k1.reads Try.underlying23 Try.underlying52 cells52
  obtain ⟨ws, e1, e2, e3⟩ := nats_of zs hw
  rw [e1, ← e2] at hr
  obtain ⟨xa, xc, rfl⟩ := hr.shape
  cases hf
  exact ⟨f, xa, xc, ws, rfl, hr, e3, by omega⟩

theorem acts_of {n : Nat} {v : Value} {d : Dt} (h : Rd Try.prog w n 22 [v] d) : ∃ (L : Acts) (sa : Option Addr) (c : Nat), v = .slice sa L.length c ∧ L.length ≤ maxLen ∧ ActsAt w sa L := by
  obtain ⟨l, sa, cap, _, hv, h1, h2, h3, h4⟩ := h.rows Try.underlying22 cells25 (by omega)
  obtain rfl : v = .slice sa l.length cap := by simpa using hv
  have hd : ∀ i, i < l.length → ∃ y : Int × List Nat, ∃ b o xa xc, ActAt w sa i y.1 y.2 b o xa xc := by
    intro i hi
    obtain ⟨b, o, es, rfl, _, h5, h6⟩ := h4 i hi
    obtain ⟨f, xa, xc, ws, rfl, q1, q2, q3⟩ := act_of h6
    exact ⟨(f, ws), b, o, xa, xc, rfl, h5 0 _ rfl, h5 1 _ rfl, q1, q2, q3⟩
  obtain ⟨L, hL, hp⟩ := list_of_each hd
  exact ⟨L, sa, cap, by rw [hL], by omega, hp⟩

theorem ActAt.fr {S : Nat → Prop} {sa : Option Addr} {i : Nat} {f : Int} {ws : List Nat} {b o : Nat} {xa : Option Addr} {xc : Nat} (h : ActAt w sa i f ws b o xa xc) (hf : Fr S w w') (hS : ∀ k, S k → w.heap.size ≤ k) : ActAt w' sa i f ws b o xa xc := by
  have key : ∀ {a : Addr} {u : Value}, w.cell? a = some u → w'.cell? a = some u := fun {a u} hc => hf.cell hc fun hs => by
    have := hS _ hs
    have := World.block_lt_of_cell? _ _ hc
    omega
  refine ⟨h.hsa, key h.hf, key h.hw, ?_, h.lt, h.few⟩
  rcases h.r with h | ⟨a, cap, e, h1, h2, h3, h4⟩
  · exact .inl h
  · exact .inr ⟨a, cap, e, h1, h2, h3, fun j u hu => key (h4 j u hu)⟩

theorem ActsAt.fr {S : Nat → Prop} {sa : Option Addr} {L : Acts} (h : ActsAt w sa L) (hf : Fr S w w') (hS : ∀ k, S k → w.heap.size ≤ k) : ActsAt w' sa L := fun i hi => by
  obtain ⟨b, o, xa, xc, h⟩ := h i hi
  exact ⟨b, o, xa, xc, h.fr hf hS⟩

/-- where the words lie: in an old block -/
theorem ActAt.old {sa : Option Addr} {i : Nat} {f : Int} {ws : List Nat} {b o : Nat} {xa : Option Addr} {xc : Nat} (h : ActAt w sa i f ws b o xa xc) (hn : ws ≠ []) : ∀ k, (Value.slice xa ws.length xc).ownBlock = some k → k < w.heap.size := by
  intro k hk
  obtain ⟨x, l, rfl⟩ : ∃ x l, ws = x :: l := by cases ws with | nil => exact (hn rfl).elim | cons x l => exact ⟨x, l, rfl⟩
  obtain ⟨b', o', rfl, hc⟩ := h.r.at1 (k := 0) (u := .int .u32 x) (by simp [u32s])
  cases hk
  exact World.block_lt_of_cell? _ _ hc

def longOf (L : Acts) : Bool := (L.take 41).any (fun x => decide (60 < x.2.length)) || decide (40 < L.length)

set_option maxHeartbeats 1000000 in
theorem long_ok (w : World) (L : Acts) (sa : Option Addr) (c : Nat) (hm : L.length ≤ maxLen) (h : ActsAt w sa L) :
    Calls Try.prog 11 #[.slice sa L.length c] w fun e w' => e = .returned (.bool (longOf L)) ∧ w = w' := by
  have HA := Lib.hid h
  have hm' : L.length ≤ 9223372036854775807 := by unfold maxLen at hm; omega
  clear h hm
  go_enter Try.func11, Try.ntmps11
  go_wp2_with fail
  go_loopw [3] (fun x wr => ∃ i : Nat, x = .int .i64 i ∧ i ≤ L.length ∧ i ≤ 41 ∧ Hid ((L.take i).any (fun x => decide (60 < x.2.length)) = false) ∧ wr = w) (fun x _ => (41 - intOf x).toNat)
  case atStart => exact ⟨0, rfl, by omega, by omega, Lib.hid (by simp), rfl⟩
  case round =>
    obtain ⟨i, rfl, hi, hi2, hno, rfl⟩ := hrel
    by_cases hlt : i < L.length
    · by_cases h41 : i < 41
      · obtain ⟨b, o, xa, xc, ha⟩ := HA.out i hlt
        obtain rfl := ha.hsa
        have c1 := ha.hw
        have hf := ha.few
        have hf' : L[i].2.length ≤ 9223372036854775807 := by unfold maxLen at hf; omega
        have hlt' : (i : Int) < L.length := by omega
        have h41' : (i : Int) < 41 := by omega
        clear ha hf
        by_cases h60 : 60 < L[i].2.length
        · have hR : Hid (longOf L = true) := by
            refine Lib.hid ?_
            unfold longOf
            rw [Bool.or_eq_true]
            refine .inl (List.any_eq_true.2 ⟨L[i], ?_, by simpa using h60⟩)
            rw [List.mem_take_iff_getElem]
            exact ⟨i, by omega, rfl⟩
          generalize L[i].2.length = n at *
          have h60' : (60 : Int) < n := by omega
          go_wp2_with fail
          go_ret
          exact ⟨by rw [hR.out]; rfl, rfl⟩
        · have hno2 : Hid ((L.take (i + 1)).any (fun x => decide (60 < x.2.length)) = false) := by
            refine Lib.hid ?_
            rw [List.take_succ_eq_append_getElem hlt, List.any_append, hno.out]
            simpa using h60
          generalize L[i].2.length = n at *
          have h60' : ¬ (60 : Int) < n := by omega
          go_wp2_with fail
          go_roundw
          case rel => exact ⟨i + 1, by go_num, by omega, by omega, hno2, by trivial⟩
          case measure => first | (simp [intOf]; done) | (simp [intOf]; omega)
      · obtain rfl : i = 41 := by omega
        have hR : Hid (longOf L = decide (40 < L.length)) := by
          refine Lib.hid ?_
          unfold longOf
          rw [hno.out, Bool.false_or]
        have h1 : (41 : Int) < L.length := by omega
        have hR2 : Hid (longOf L = decide ((40 : Int) < L.length)) := Lib.hid (by rw [hR.out]; exact decide_eq_decide.2 (by omega))
        go_wp2_with fail
        go_ret
        exact ⟨by rw [hR2.out]; rfl, rfl⟩
    · obtain rfl : i = L.length := by omega
      have hR : Hid (longOf L = decide ((40 : Int) < L.length)) := by
        refine Lib.hid ?_
        have h2 := hno.out
        rw [List.take_length] at h2
        unfold longOf
        rw [List.take_of_length_le hi2, h2, Bool.false_or]
        exact decide_eq_decide.2 (by omega)
      go_wp2_with fail
      go_ret
      exact ⟨by rw [hR.out]; rfl, rfl⟩

end Go.Proofs.Ytpgmfifieilhkaa
