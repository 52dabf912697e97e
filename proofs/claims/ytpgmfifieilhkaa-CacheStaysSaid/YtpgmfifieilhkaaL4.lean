import Derived.Test.YtpgmfifieilhkaaL3
namespace Go.Proofs.Ytpgmfifieilhkaa
open Go.RowKit

attribute [local go_sem] Program.isFuncB Program.isSliceB

variable {w w' w'' : World} {words : Nat} {P P' P'' : List (Nat × List Nat)} {s s' : CS} {r r' : RS}

structure Keeps (w0 w : World) (words : Nat) (P : List (Nat × List Nat)) (s : CS) (cb : Nat) : Prop where
  c : CSt w words P s
  cb : s.b = cb
  new : ∀ k, foot s P k → w0.heap.size ≤ k
  fr : Fr (far w0.heap.size) w0 w

theorem Keeps.go {w0 : World} {cb : Nat} (h : Keeps w0 w words P s cb) (k : CTo w w' words P s P' s') : Keeps w0 w' words P' s' cb :=
  ⟨.inl k.at_, k.b.trans h.cb, fun i hi => by
    have := h.fr.size
    rcases k.ft i hi with h1 | h1
    · exact h.new i h1
    · omega, h.fr.trans (far_of k.fr h.new)⟩
theorem Keeps.stay {w0 : World} {cb : Nat} (h : Keeps w0 w words P s cb) (k : Fr no w w') : Keeps w0 w' words P s cb :=
  ⟨h.c.fr k (by simp), h.cb, h.new, h.fr.trans k.to⟩
theorem Keeps.ok {w0 : World} {cb : Nat} (h : Keeps w0 w words P s cb) : POk words P := by
  rcases h.c with h | ⟨hr, rfl⟩
  · exact h.ok
  · exact ⟨by simp, by simp, by simp [flat], hr.few⟩

structure Held (w : World) (P : List (Nat × List Nat)) (s : CS) (v : Value) (n : Nat) (l : List Nat) : Prop where
  z : ownsZ w 0 52 (.int .u32 0) v n (u32s l)
  ap : ∀ k, v.ownBlock = some k → ¬ foot s P k
theorem Held.go {v : Value} {n : Nat} {l : List Nat} (h : Held w P s v n l) (k : CTo w w' words P s P' s') : Held w' P' s' v n l :=
  ⟨ownsZ_fr h.z k.fr h.ap, fun i hi hf => by
    rcases k.ft i hf with h1 | h1
    · exact h.ap i hi h1
    · have := (h.z.owns.lt i hi).2; omega⟩
theorem Held.stay {v : Value} {n : Nat} {l : List Nat} (h : Held w P s v n l) (k : Fr no w w') : Held w' P s v n l := ⟨ownsZ_fr h.z k (by simp), h.ap⟩

theorem Keeps.put {w0 : World} {cb : Nat} (h : Keeps w0 w words P s cb) (f : Int) (xa : Option Addr) (xc : Nat) (ws : List Nat) (hr : Reads w (.slice xa ws.length xc) 1 ws.length (u32s ws)) (hlt : ∀ n ∈ ws, n < 4294967296) (h1 : ws.length ≤ 1000000)
    (hap : ws ≠ [] → ∀ k, (Value.slice xa ws.length xc).ownBlock = some k → k < w0.heap.size) {p1 : Nat} {p2 : Int} (hpo : putOf words P f ws = (p1, p2, P')) :
    Calls Try.prog 12 #[.pointer (some ⟨cb, 0, none⟩), .int .i64 f, .slice xa ws.length xc] w fun e w' => e = .returned (.tuple #[.int .u64 p1, .int .i64 p2]) ∧ ∃ s', CTo w w' words P s P' s' := by
  have C := put_all h.c f xa xc ws hr hlt h1 (fun hne k hk hf => by
    have h1 := hap hne k hk
    have h2 := h.new k hf
    omega)
  rw [h.cb, hpo] at C
  exact C

theorem Keeps.left {w0 : World} {cb : Nat} (h : Keeps w0 w words P s cb) :
    Calls Try.prog 14 #[.pointer (some ⟨cb, 0, none⟩)] w fun e w' => e = .returned (.int .i64 ((words : Int) - (flat P).length)) ∧ ∃ s', CTo w w' words P s P s' := by
  have C := left_int h.c
  rw [h.cb] at C
  exact C
theorem Keeps.next {w0 : World} {cb : Nat} (h : Keeps w0 w words P s cb) :
    Calls Try.prog 15 #[.pointer (some ⟨cb, 0, none⟩)] w fun e w' => e = .returned (.int .u64 (4294967296 + 4 * ((flat P).length : Int))) ∧ ∃ s', CTo w w' words P s P s' := by
  have C := next_yes h.c
  rw [h.cb, show ((adr (flat P).length : Nat) : Int) = 4294967296 + 4 * ((flat P).length : Int) from by unfold adr; omega] at C
  exact C
theorem Keeps.code {w0 : World} {cb : Nat} (h : Keeps w0 w words P s cb) :
    Calls Try.prog 13 #[.pointer (some ⟨cb, 0, none⟩)] w fun e w' => ∃ va vc, e = .returned (.slice va (flat P).length vc) ∧ ∃ s', CTo w w' words P s P s' ∧ Held w' P s' (.slice va (flat P).length vc) (flat P).length (flat P) := by
  have C := code_z h.c
  rw [h.cb] at C
  refine C.mono ?_
  rintro e w' ⟨v, rfl, hz, s', k, ap⟩
  obtain ⟨va, vc, rfl⟩ := owns_shape hz.owns
  exact ⟨va, vc, rfl, s', k, ownsZ_base hz (Nat.zero_le _), ap⟩
theorem Keeps.addr {w0 : World} {cb : Nat} (h : Keeps w0 w words P s cb) (f : Int) :
    Calls Try.prog 16 #[.pointer (some ⟨cb, 0, none⟩), .int .i64 f] w fun e w' => (∃ a b, addrSpec P f a b ∧ e = .returned (.tuple #[.int .u64 a, .bool b])) ∧ ∃ s', CTo w w' words P s P s' := by
  have C := address_all h.c f
  rw [h.cb] at C
  exact C

/-- why a Put is refused -/
inductive Why (words : Nat) (P : List (Nat × List Nat)) (f : Int) (ws : List Nat) (lies : Bool) : Int → Prop
  | low (h : f < 0) : Why words P f ws lies 2
  | high (h0 : ¬ f < 0) (h : 64 ≤ f) : Why words P f ws lies 2
  | none (h0 : ¬ f < 0) (h1 : ¬ 64 ≤ f) (h : ws.length = 0) : Why words P f ws lies 2
  | lies (h0 : ¬ f < 0) (h1 : ¬ 64 ≤ f) (h2 : ¬ ws.length = 0) (h : lies = true) : Why words P f ws lies 7
  | full (h0 : ¬ f < 0) (h1 : ¬ 64 ≤ f) (h2 : ¬ ws.length = 0) (h3 : lies = false) (h : (words : Int) - (flat P).length < ws.length) : Why words P f ws lies 8

theorem why_of (hroom : (flat P).length ≤ words) (f : Int) (ws : List Nat) {a : Nat} {b : Bool} (hs : addrSpec P f a b) :
    (∃ c, Why words P f ws b c ∧ (c = 0 → False) ∧ putOf words P f ws = (0, c, P)) ∨
      (¬ f < 0 ∧ ¬ 64 ≤ f ∧ ¬ ws.length = 0 ∧ b = false ∧ ¬ (words : Int) - (flat P).length < ws.length ∧ putOf words P f ws = (adr (flat P).length, 0, P ++ [(f.toNat, ws)])) := by
  have hnil : ws = [] ↔ ws.length = 0 := List.length_eq_zero_iff.symm
  have hb : (b = true ↔ f.toNat ∈ P.map (·.1)) ∨ f < 0 := by
    by_cases hf : f < 0
    · exact .inr hf
    · left
      rcases hs with ⟨i, hi, he, _, rfl⟩ | ⟨hno, _, rfl⟩
      · simp only [true_iff]
        have : P[i].1 = f.toNat := by omega
        rw [← this]; exact List.mem_map_of_mem (List.getElem_mem hi)
      · simp only [Bool.false_eq_true, false_iff]
        intro hm
        obtain ⟨i, hi, he⟩ := idx_of hm
        exact hno i hi (by omega)
  unfold putOf
  by_cases h0 : f < 0
  · exact .inl ⟨2, .low h0, by omega, by rw [if_pos (.inl h0)]⟩
  by_cases h1 : 64 ≤ f
  · exact .inl ⟨2, .high h0 h1, by omega, by rw [if_pos (.inr (.inl h1))]⟩
  by_cases h2 : ws.length = 0
  · exact .inl ⟨2, .none h0 h1 h2, by omega, by rw [if_pos (.inr (.inr (hnil.2 h2)))]⟩
  have hc : ¬ (f < 0 ∨ 64 ≤ f ∨ ws = []) := by rw [hnil]; omega
  have hb := hb.resolve_right h0
  cases b with
  | true => exact .inl ⟨7, .lies h0 h1 h2 rfl, by omega, by rw [if_neg hc, if_pos (hb.1 rfl)]⟩
  | false =>
    have hb2 : ¬ f.toNat ∈ P.map (·.1) := fun h => by have := hb.2 h; cases this
    by_cases h3 : (words : Int) - (flat P).length < ws.length
    · exact .inl ⟨8, .full h0 h1 h2 rfl h3, by omega, by rw [if_neg hc, if_neg hb2, if_pos (by omega)]⟩
    · exact .inr ⟨h0, h1, h2, rfl, h3, by rw [if_neg hc, if_neg hb2, if_neg (by omega)]⟩

end Go.Proofs.Ytpgmfifieilhkaa
