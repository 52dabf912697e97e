import Derived.Test.YtpgmfifieilhkaaK3
namespace Go.Proofs.Ytpgmfifieilhkaa
open Go.RowKit

attribute [local go_sem] Program.isFuncB Program.isSliceB

variable {w w' w'' : World} {words : Nat} {P P' P'' : List (Nat × List Nat)} {s s' : CS} {r r' : RS}

structure Both (w : World) (words : Nat) (P : List (Nat × List Nat)) (s : CS) (r : RS) : Prop where
  c : CSt w words P s
  f : RefAt w words P r
  ap : ∀ k, foot s P k → ¬ rfoot r k

/-- the cache goes on, the document's stays -/
theorem Both.cache (h : Both w words P s r) (k : CTo w w' words P s P' s') : CSt w' words P' s' ∧ RefAt w' words P r ∧ ∀ k, foot s' P' k → ¬ rfoot r k := by
  refine ⟨.inl k.at_, ?_, fun i hi hr => ?_⟩
  · refine ⟨k.fr.heap h.f.obj (fun e => h.ap _ e (.inl rfl)), owns_fr h.f.wds k.fr (fun i hi e => h.ap _ e (.inr (.inl hi))), owns_fr h.f.rows k.fr (fun i hi e => h.ap _ e (.inr (.inr hi))), h.f.ok⟩
  · rcases k.ft i hi with h1 | h1
    · exact h.ap i h1 hr
    · have := h.f.lt i hr; omega
theorem Both.stay (h : Both w words P s r) (k : CTo w w' words P s P s') : Both w' words P s' r :=
  have := h.cache k
  ⟨this.1, this.2.1, this.2.2⟩
theorem Both.fr {S : Nat → Prop} (h : Both w words P s r) (k : Fr S w w') (hs : ∀ k, foot s P k ∨ rfoot r k → ¬ S k) : Both w' words P s r :=
  ⟨h.c.fr k (fun i hi => hs i (.inl hi)), ⟨k.heap h.f.obj (hs _ (.inr (.inl rfl))), owns_fr h.f.wds k (fun i hi => hs _ (.inr (.inr (.inl hi)))), owns_fr h.f.rows k (fun i hi => hs _ (.inr (.inr (.inr hi)))), h.f.ok⟩, h.ap⟩

def addrSpec (P : List (Nat × List Nat)) (f : Int) (a : Nat) (b : Bool) : Prop :=
  (∃ i, ∃ hi : i < P.length, (P[i].1 : Int) = f ∧ a = adr (fromOf P i) ∧ b = true) ∨ ((∀ i (hi : i < P.length), (P[i].1 : Int) ≠ f) ∧ a = 0 ∧ b = false)
theorem addrSpec_one (hnd : (P.map (·.1)).Nodup) {f : Int} {a a' : Nat} {b b' : Bool} (h : addrSpec P f a b) (h' : addrSpec P f a' b') : a = a' ∧ b = b' := by
  rcases h with ⟨i, hi, e1, rfl, rfl⟩ | ⟨n, rfl, rfl⟩ <;> rcases h' with ⟨j, hj, e2, rfl, rfl⟩ | ⟨m, rfl, rfl⟩
  · have hij : i = j := by
      have e : P[i].1 = P[j].1 := by omega
      have h1 : (P.map (·.1))[i]'(by simpa using hi) = (P.map (·.1))[j]'(by simpa using hj) := by simpa using e
      exact (List.getElem_inj hnd).1 h1
    subst hij; exact ⟨rfl, rfl⟩
  · exact (m i hi e1).elim
  · exact (n j hj e2).elim
  · exact ⟨rfl, rfl⟩

theorem address_all (h : CSt w words P s) (f : Int) :
    Calls Try.prog 16 #[.pointer (some ⟨s.b, 0, none⟩), .int .i64 f] w fun e w' => (∃ a b, addrSpec P f a b ∧ e = .returned (.tuple #[.int .u64 a, .bool b])) ∧ ∃ s', CTo w w' words P s P s' := by
  by_cases hf : f < 0 ∨ 64 ≤ f
  · refine (address_far h f hf).mono ?_
    rintro e w' ⟨rfl, h'⟩
    refine ⟨⟨0, false, .inr ⟨fun i hi e => ?_, rfl, rfl⟩, rfl⟩, h'⟩
    have hlt : P[i].1 < 64 := by
      rcases h with h | ⟨_, rfl⟩
      · exact (h.ok.lt _ (List.getElem_mem hi)).1
      · simp at hi
    omega
  · obtain ⟨n, rfl⟩ : ∃ n : Nat, f = n := ⟨f.toNat, by omega⟩
    by_cases hm : n ∈ P.map (·.1)
    · obtain ⟨i, hi, rfl⟩ := idx_of hm
      refine (address_yes h i hi).mono ?_
      rintro e w' ⟨rfl, h'⟩
      exact ⟨⟨_, _, .inl ⟨i, hi, rfl, rfl, rfl⟩, rfl⟩, h'⟩
    · refine (address_none h n (by omega) hm).mono ?_
      rintro e w' ⟨rfl, h'⟩
      refine ⟨⟨_, _, .inr ⟨fun i hi e => hm ?_, rfl, rfl⟩, rfl⟩, h'⟩
      have : P[i].1 = n := by omega
      rw [← this]; exact List.mem_map_of_mem (List.getElem_mem hi)

theorem ref_address_all (h : RefAt w words P r) (f : Int) :
    Calls Try.prog 28 #[.pointer (some ⟨r.b, 0, none⟩), .int .i64 f] w fun e w' => (∃ a b, addrSpec P f a b ∧ e = .returned (.tuple #[.int .u64 a, .bool b])) ∧ w = w' := by
  refine (ref_addr h f).mono ?_
  rintro e w' ⟨⟨i, hi, he, rfl⟩ | ⟨hno, rfl⟩, rfl⟩
  · exact ⟨⟨_, _, .inl ⟨i, hi, he, rfl, rfl⟩, rfl⟩, rfl⟩
  · exact ⟨⟨_, _, .inr ⟨hno, rfl, rfl⟩, rfl⟩, rfl⟩

def findOf (P : List (Nat × List Nat)) (a : Nat) : Int × Bool :=
  if 4294967296 ≤ a ∧ a % 4 = 0 ∧ a < adr (flat P).length then ((who P ((a - 4294967296) / 4) : Nat), true) else (-1, false)

theorem find_all (h : CSt w words P s) (a : Nat) :
    Calls Try.prog 22 #[.pointer (some ⟨s.b, 0, none⟩), .int .u64 a] w fun e w' => e = .returned (.tuple #[.int .i64 (findOf P a).1, .bool (findOf P a).2]) ∧ ∃ s', CTo w w' words P s P s' := by
  by_cases h1 : a < 4294967296 ∨ a % 4 ≠ 0
  · rw [findOf, if_neg (by omega)]
    exact find_low h a h1
  by_cases h2 : adr (flat P).length ≤ a
  · rw [findOf, if_neg (by omega)]
    exact find_past h a (by omega) (by omega) h2
  · rw [findOf, if_pos (by omega)]
    have e : a = adr ((a - 4294967296) / 4) := by unfold adr; omega
    have hl : (a - 4294967296) / 4 < (flat P).length := by unfold adr at h2; omega
    have := find_yes h _ hl
    rw [← e] at this
    exact this

theorem ref_find_all (h : RefAt w words P r) (a : Nat) :
    Calls Try.prog 30 #[.pointer (some ⟨r.b, 0, none⟩), .int .u64 a] w fun e w' => e = .returned (.tuple #[.int .i64 (findOf P a).1, .bool (findOf P a).2]) ∧ w = w' := by
  refine (ref_find h a).mono ?_
  rintro e w' ⟨⟨n, hn, rfl, rfl⟩ | ⟨hno, rfl⟩, rfl⟩
  · refine ⟨?_, rfl⟩
    rw [findOf, if_pos (by unfold adr; omega)]
    have : (adr n - 4294967296) / 4 = n := by unfold adr; omega
    rw [this]
  · refine ⟨?_, rfl⟩
    rw [findOf, if_neg]
    intro h'
    refine hno ((a - 4294967296) / 4) ?_ ?_ <;> (unfold adr at *; omega)

end Go.Proofs.Ytpgmfifieilhkaa
