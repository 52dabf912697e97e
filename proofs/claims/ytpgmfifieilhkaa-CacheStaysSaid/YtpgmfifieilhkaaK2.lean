import Derived.Test.YtpgmfifieilhkaaK1
namespace Go
/-- a slice in memory of its own: what it holds, then zeros -/
def ownsZ (w : World) (base : Nat) (e : TypeId) (z v : Value) (n : Nat) (xs : List Value) : Prop :=
  xs.length = n ∧ ((v = .slice none 0 0 ∧ n = 0) ∨
    ∃ g cap cur, v = .slice (some ⟨g, 0, none⟩) n cap ∧ base ≤ g ∧ w.heap[g]? = some (.cells cur e (0, 0)) ∧ n ≤ cap ∧ cap ≤ maxLen ∧ cur.toList = xs ++ List.replicate (cap - n) z)

theorem ownsZ.owns {w : World} {base : Nat} {e : TypeId} {z v : Value} {n : Nat} {xs : List Value} (h : ownsZ w base e z v n xs) : w.ownsRow base e 1 v n xs := by
  refine ⟨by rw [h.1]; omega, ?_⟩
  rcases h.2 with h2 | ⟨g, cap, cur, rfl, hb, hg, h3, h4, h5⟩
  · exact .inl h2
  · refine .inr ⟨g, cap, cur, rfl, hb, hg, h3, h4, ?_, ?_⟩
    · have := congrArg List.length h5
      rw [List.length_append, List.length_replicate, h.1] at this
      simp at this; omega
    · rw [h5, Nat.mul_one, ← h.1, List.take_left']; rfl

theorem zeroCells_one (z : Value) (n : Nat) (hz : z.cells = #[z]) : Builtin.zeroCells z.cells n = (List.replicate n z).toArray := by
  rw [hz]
  apply Array.ext
  · simp [Builtin.zeroCells]
  · intro i h1 h2
    simp [Builtin.zeroCells, Nat.mod_one]

theorem wpList_append_fresh {P : Program} {w : World} {ops : Array Oper} {rest : List Oper} {o : Oper} {a : Act} {Q : Exit → Act → World → Prop} (hgd : o.guard = none) (s x : Operand) (t : TypeId)
    (ho : o.op = .call { callee := .builtin .append, args := #[s, x], argTypes := #[t, t] })
    (e : TypeId) (z : Value) (bytes : Nat) (ht : P.underlying t = some (.slice e)) (hi : P.info? e = some { (P.info? e).get! with zero := some z, size := 1, bytes := bytes } ) (hz1 : z.cells = #[z])
    (g : Nat) (hs : a.eval s = .slice (some ⟨g, 0, none⟩) 0 0) (hg : w.heap[g]? = some (.cells #[] e (0, 0)))
    (m : Nat) (news : List Value) (hr : Reads w (a.eval x) 1 m news)
    (h63 : m ≤ maxLen) (hbytes : m * bytes ≤ 140737488355328) (B : Nat) (hB : B ≤ g) (hB2 : B ≤ w.heap.size)
    (h : ∀ a' c' w', ownsZ w' B e z (.slice a' m c') m news → Fr no w w' → wpList P ops Q rest (a.put o.dst (.slice a' m c')) w') : wpList P ops Q (o :: rest) a w := by
  have hlen := hr.len
  rw [Nat.mul_one] at hlen
  have hsame : news = [] → m = 0 := fun e => by rw [← hlen, e]; rfl
  rcases hr with ⟨hx, rfl, rfl⟩ | ⟨ad, cap, hx, _, _, hl, hc⟩
  · refine wpList_append_own_none hgd s x t ho 0 e _ 1 ht hi (.slice (some ⟨g, 0, none⟩) 0 0) 0 [] hs ⟨rfl, .inr ⟨g, 0, #[], rfl, Nat.zero_le _, hg, Nat.le_refl _, Nat.zero_le _, rfl, rfl⟩⟩ hx ?_
    exact h _ _ w ⟨rfl, .inr ⟨g, 0, #[], rfl, hB, hg, Nat.le_refl _, Nat.zero_le _, rfl⟩⟩ (Fr.refl _ _)
  · have done : ∀ v' w', (Builtin.append_ #[t, t] o.type #[.slice (some ⟨g, 0, none⟩) 0 0, .slice (some ad) m cap]).run P w = .ok v' w' → wpList P ops Q rest (a.put o.dst v') w' → wpList P ops Q (o :: rest) a w := by
      intro v' w' hrun hk
      refine wpList_plain hgd fun K hK => ?_
      unfold Oper.wp
      simp [execOp, ho, resolve, invoke, builtin, hs, hx, hrun, Result.andThen]
      exact hK _ _ hk
    by_cases hm : m = 0
    · subst hm
      obtain rfl : news = [] := List.length_eq_zero_iff.1 hlen
      have := run_append_room (P := P) w t o.type e _ ht hi g 0 0 #[] hg ad 0 cap [] (by simp) (by simp) (by simp) (by omega) (by simp)
      refine done _ _ this ?_
      refine h _ _ _ ⟨rfl, .inr ⟨g, 0, #[], rfl, hB, ?_, Nat.le_refl _, Nat.zero_le _, rfl⟩⟩ ?_
      · have := setRow_heap w g #[] #[] e (0, 0) hg
        simpa using this
      · refine ⟨rfl, rfl, rfl, by simp, fun k hk _ => ?_⟩
        by_cases hkg : k = g
        · subst hkg
          have := setRow_heap w k #[] #[] e (0, 0) hg
          rw [hg]; simpa using this
        · exact setRow_other w g k _ hkg
    · have hge := grownCap_ge w (0 + m) 0 e
      have hcm : grownCap w (0 + m) 0 e ≤ maxLen := grownCap_le_maxLen w (0 + m) 0 e (by omega)
      have := run_append_grow (P := P) w t o.type e _ z ht hi rfl ⟨g, 0, none⟩ 0 0 [] (by simp) (by simp) ad m cap news (by simpa using hl) hc (by omega) (by simp only [maxLen] at h63; omega) (growslice_fits (by omega) (by simpa using hbytes))
      refine done _ _ this ?_
      simp only [Nat.zero_add] at hge hcm ⊢
      refine h _ _ _ ⟨hlen, .inr ⟨w.heap.size, _, _, rfl, hB2, heap_new w.drew _, hge, hcm, ?_⟩⟩ (((Fr.refl no w).drew).alloc _)
      simp [zeroCells_one z _ hz1]
end Go
namespace Go.Proofs.Ytpgmfifieilhkaa
open Go.RowKit

attribute [local go_sem] Program.isFuncB Program.isSliceB

variable {w w' w'' : World} {words : Nat} {P P' P'' : List (Nat × List Nat)} {s : CS}

theorem info52' : Try.prog.info? 52 = some { (Try.prog.info? 52).get! with zero := some (.int .u32 0), size := 1, bytes := 4 } := by kernel_rfl

theorem ownsZ_base {base base' : Nat} {e : TypeId} {z v : Value} {n : Nat} {xs : List Value} (h : ownsZ w base e z v n xs) (hb : base' ≤ base) : ownsZ w base' e z v n xs := by
  refine ⟨h.1, ?_⟩
  rcases h.2 with h | ⟨g, cap, cur, h1, h2, h3⟩
  · exact .inl h
  · exact .inr ⟨g, cap, cur, h1, by omega, h3⟩
theorem ownsZ_fr {S : Nat → Prop} {base : Nat} {e : TypeId} {z v : Value} {n : Nat} {xs : List Value} (h : ownsZ w base e z v n xs) (hf : Fr S w w') (hs : ∀ k, v.ownBlock = some k → ¬ S k) : ownsZ w' base e z v n xs := by
  refine ⟨h.1, ?_⟩
  rcases h.2 with h | ⟨g, cap, cur, rfl, h2, h3, h4⟩
  · exact .inl h
  · exact .inr ⟨g, cap, cur, rfl, h2, hf.heap h3 (hs g rfl), h4⟩

set_option maxHeartbeats 1000000 in
theorem clone_z (w : World) (v : Value) (l : List Nat) (h : Reads w v 1 l.length (u32s l)) (hb : l.length ≤ 1000000) :
    Calls Try.prog 27 #[v] w fun e w' => ∃ v', e = .returned v' ∧ ownsZ w' w.heap.size 52 (.int .u32 0) v' l.length (u32s l) ∧ Fr no w w' := by
  have HR := Lib.hid (h.fr (((Fr.refl no w).alloc (.cells #[] 52))) (by simp))
  have HO := Lib.hid (heap_new w (.cells #[] 52))
  rcases h with ⟨rfl, h1, h2⟩ | ⟨a, cap, rfl, h1, h2, h3, h4⟩
  · have hx := List.length_eq_zero_iff.1 h1
    subst hx
    clear h1 h2
    go_enter Try.func27, Try.ntmps27
    go_wp2
    go_ret
    exact ⟨_, rfl, ⟨rfl, .inl ⟨rfl, rfl⟩⟩, Fr.refl _ _⟩
  · clear h3 h4 h2
    go_enter Try.func27, Try.ntmps27
    go_wp2_with (at_builtin; refine wpList_append_fresh rfl _ _ 23 rfl 52 (.int .u32 0) 4 Try.underlying23 info52' rfl w.heap.size rfl HO.out l.length _ HR.out (by unfold maxLen; omega) (by omega) w.heap.size (Nat.le_refl _) (by simp) ?_; intro a' c' w1 hown' hf)
    go_ret
    exact ⟨_, rfl, hown', ((Fr.refl no w).alloc _).trans hf⟩

set_option maxHeartbeats 1000000 in
theorem code_z (h : CSt w words P s) :
    Calls Try.prog 13 #[.pointer (some ⟨s.b, 0, none⟩)] w fun e w' => ∃ v', e = .returned v' ∧ ownsZ w' w.heap.size 52 (.int .u32 0) v' (flat P).length (u32s (flat P)) ∧ ∃ s', CTo w w' words P s P s' ∧ ∀ k, v'.ownBlock = some k → ¬ foot s' P k := by
  have H := Lib.hid h
  clear h
  go_enter Try.func13, Try.ntmps13
  go_wp2_with fail
  refine (ready_yes H.out).mono ?_
  rintro e w1 ⟨rfl, s1, h1⟩
  have hb := h1.b
  obtain ⟨ca, cc, hcv⟩ := owns_shape h1.at_.code
  have e5 : w1.cell? ⟨s.b, 5, none⟩ = some (.slice ca (flat P).length cc) := by rw [← hb, ← hcv]; exact cell_of_heap h1.at_.obj rfl
  have hlen : (flat P).length ≤ 65536 := Nat.le_trans h1.at_.ok.room h1.at_.ok.few
  have HRd := Lib.hid (hcv ▸ owns_reads h1.at_.code)
  have H1 := Lib.hid h1
  clear h1 hb hcv
  go_wp2_with fail
  refine (clone_z _ _ _ HRd.out (by omega)).mono ?_
  rintro e w2 ⟨v', rfl, ho, r2⟩
  obtain ⟨va, vc, rfl⟩ := owns_shape ho.owns
  have HO := Lib.hid ho
  have HR := Lib.hid r2
  clear ho r2
  go_wp2_with fail
  go_ret
  obtain ⟨a1, a2, a3, a4⟩ := H1.out
  have := a4.size
  refine ⟨_, rfl, ownsZ_base HO.out this, s1, ⟨a1.fr HR.out (by simp), a2, a3, a4.trans' HR.out (by simp)⟩, fun k hk hf => ?_⟩
  have h1 := (HO.out.owns.lt k hk).1
  have h2 := a1.lt k hf
  omega

end Go.Proofs.Ytpgmfifieilhkaa
