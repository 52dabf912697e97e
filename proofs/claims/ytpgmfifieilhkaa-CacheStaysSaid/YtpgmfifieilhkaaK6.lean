import Derived.Test.YtpgmfifieilhkaaK5
namespace Go.Proofs.Ytpgmfifieilhkaa
open Go.RowKit

attribute [local go_sem] Program.isFuncB Program.isSliceB

variable {w w' w'' : World} {words : Nat} {P P' P'' : List (Nat × List Nat)} {s s' : CS} {r r' : RS}

/-- what a Put answers, and what lies then -/
def putOf (words : Nat) (P : List (Nat × List Nat)) (f : Int) (ws : List Nat) : Nat × Int × List (Nat × List Nat) :=
  if f < 0 ∨ 64 ≤ f ∨ ws = [] then (0, 2, P) else if f.toNat ∈ P.map (·.1) then (0, 7, P) else if words - (flat P).length < ws.length then (0, 8, P) else (adr (flat P).length, 0, P ++ [(f.toNat, ws)])

theorem put_all (h : CSt w words P s) (f : Int) (xa : Option Addr) (xc : Nat) (ws : List Nat) (hr : Reads w (.slice xa ws.length xc) 1 ws.length (u32s ws)) (hlt : ∀ n ∈ ws, n < 4294967296) (h1 : ws.length ≤ 1000000)
    (hap : ws ≠ [] → ∀ k, (Value.slice xa ws.length xc).ownBlock = some k → ¬ foot s P k) :
    Calls Try.prog 12 #[.pointer (some ⟨s.b, 0, none⟩), .int .i64 f, .slice xa ws.length xc] w fun e w' => e = .returned (.tuple #[.int .u64 (putOf words P f ws).1, .int .i64 (putOf words P f ws).2.1]) ∧ ∃ s', CTo w w' words P s (putOf words P f ws).2.2 s' := by
  unfold putOf
  by_cases c1 : f < 0 ∨ 64 ≤ f ∨ ws = []
  · rw [if_pos c1]
    exact put_arg h f xa _ xc (by rcases c1 with c | c | c; exact .inl c; exact .inr (.inl c); exact .inr (.inr (by rw [c]; rfl))) (by omega)
  rw [if_neg c1]
  obtain ⟨n, rfl⟩ : ∃ n : Nat, f = n := ⟨f.toNat, by omega⟩
  have hpos : 0 < ws.length := List.length_pos_iff.2 (fun e => c1 (.inr (.inr e)))
  simp only [Int.toNat_natCast]
  by_cases c2 : n ∈ P.map (·.1)
  · rw [if_pos c2]
    exact put_exists h n (by omega) c2 xa _ xc hpos
  rw [if_neg c2]
  by_cases c3 : words - (flat P).length < ws.length
  · rw [if_pos c3]
    exact put_full h n (by omega) c2 xa _ xc hpos c3
  rw [if_neg c3]
  have := h.room
  exact put_ok h n (by omega) c2 _ ws hr hlt (fun e => c1 (.inr (.inr e))) (by omega) (hap (fun e => c1 (.inr (.inr e))))

theorem ref_put_all (h : RefAt w words P r) (f : Int) (xa : Option Addr) (xc : Nat) (ws : List Nat) (hr : Reads w (.slice xa ws.length xc) 1 ws.length (u32s ws)) (hlt : ∀ n ∈ ws, n < 4294967296) (h1 : ws.length ≤ 1000000)
    (hap : ws ≠ [] → ∀ k, (Value.slice xa ws.length xc).ownBlock = some k → ¬ rfoot r k) :
    Calls Try.prog 19 #[.pointer (some ⟨r.b, 0, none⟩), .int .i64 f, .slice xa ws.length xc] w fun e w' => e = .returned (.tuple #[.int .u64 (putOf words P f ws).1, .int .i64 (putOf words P f ws).2.1]) ∧ ∃ r', RTo w w' words r (putOf words P f ws).2.2 r' := by
  have stay : ∀ q, RTo w (w.drewN q) words r P r := fun q =>
    ⟨⟨((Fr.refl no w).drewN q).heap h.obj (by simp), owns_fr h.wds ((Fr.refl no w).drewN q) (by simp), owns_fr h.rows ((Fr.refl no w).drewN q) (by simp), h.ok⟩, rfl, fun _ h => .inl h, (Fr.refl _ w).drewN q⟩
  unfold putOf
  by_cases c1 : f < 0 ∨ 64 ≤ f ∨ ws = []
  · rw [if_pos c1]
    refine (ref_put_arg w r.b f xa _ xc (by rcases c1 with c | c | c; exact .inl c; exact .inr (.inl c); exact .inr (.inr (by rw [c]; rfl))) (by omega)).mono ?_
    rintro e w' ⟨rfl, rfl⟩
    exact ⟨rfl, r, stay 0⟩
  rw [if_neg c1]
  obtain ⟨n, rfl⟩ : ∃ n : Nat, f = n := ⟨f.toNat, by omega⟩
  have hpos : 0 < ws.length := List.length_pos_iff.2 (fun e => c1 (.inr (.inr e)))
  simp only [Int.toNat_natCast]
  by_cases c2 : n ∈ P.map (·.1)
  · rw [if_pos c2]
    refine (ref_put_exists h n (by omega) c2 xa _ xc hpos).mono ?_
    rintro e w' ⟨rfl, rfl⟩
    exact ⟨rfl, r, stay 0⟩
  rw [if_neg c2]
  by_cases c3 : words - (flat P).length < ws.length
  · rw [if_pos c3]
    refine (ref_put_full h n (by omega) c2 xa _ xc hpos h1 c3).mono ?_
    rintro e w' ⟨rfl, q, rfl⟩
    exact ⟨rfl, r, stay q⟩
  rw [if_neg c3]
  have := h.ok.room
  exact ref_put_ok h n (by omega) c2 xa xc ws hr hlt (fun e => c1 (.inr (.inr e))) (by omega) (hap (fun e => c1 (.inr (.inr e))))

set_option maxHeartbeats 1000000 in
theorem puts_all (h : CSt w words P s) (f : Int) (want : Nat) (er : Int) (xa : Option Addr) (xc : Nat) (ws : List Nat) (hr : Reads w (.slice xa ws.length xc) 1 ws.length (u32s ws)) (hlt : ∀ n ∈ ws, n < 4294967296) (h1 : ws.length ≤ 1000000)
    (hap : ws ≠ [] → ∀ k, (Value.slice xa ws.length xc).ownBlock = some k → ¬ foot s P k) :
    Calls Try.prog 23 #[.pointer (some ⟨s.b, 0, none⟩), .int .i64 f, .int .u64 want, .int .i64 er, .slice xa ws.length xc] w fun e w' => e = .returned (.bool (((putOf words P f ws).1 : Int) == want && (putOf words P f ws).2.1 == er)) ∧ ∃ s', CTo w w' words P s (putOf words P f ws).2.2 s' := by
  have C := put_all h f xa xc ws hr hlt h1 hap
  generalize putOf words P f ws = po at *
  obtain ⟨p1, p2, p3⟩ := po
  have HC := Lib.hid C
  clear C h hr hlt hap
  by_cases e1 : p1 = want
  · subst e1
    go_enter Try.func23, Try.ntmps23
    go_wp2_with fail
    refine HC.out.mono ?_
    rintro e w1 ⟨rfl, hs⟩
    have HS := Lib.hid hs
    clear hs
    go_wp2_with fail
    go_ret
    exact ⟨by simp, HS.out⟩
  · have e2 : ((p1 : Int) == want) = false := by rw [beq_eq_false_iff_ne]; omega
    clear e1
    generalize (want : Int) = wa at *
    generalize (p1 : Int) = pa at *
    go_enter Try.func23, Try.ntmps23
    go_wp2_with fail
    refine HC.out.mono ?_
    rintro e w1 ⟨rfl, hs⟩
    have HS := Lib.hid hs
    clear hs
    go_wp2_with fail
    go_ret
    exact ⟨by simp [e2], HS.out⟩

set_option maxHeartbeats 1000000 in
theorem finds_all (h : CSt w words P s) (a : Nat) (n : Int) (is : Bool) :
    Calls Try.prog 24 #[.pointer (some ⟨s.b, 0, none⟩), .int .u64 a, .int .i64 n, .bool is] w fun e w' => e = .returned (.bool ((findOf P a).1 == n && (findOf P a).2 == is)) ∧ ∃ s', CTo w w' words P s P s' := by
  have C := find_all h a
  generalize findOf P a = po at *
  obtain ⟨p1, p2⟩ := po
  have HC := Lib.hid C
  clear C h
  by_cases e1 : p1 = n
  · subst e1
    go_enter Try.func24, Try.ntmps24
    go_wp2_with fail
    refine HC.out.mono ?_
    rintro e w1 ⟨rfl, hs⟩
    have HS := Lib.hid hs
    clear hs
    go_wp2_with fail
    go_ret
    exact ⟨by simp, HS.out⟩
  · have e2 : (p1 == n) = false := by simpa using e1
    clear e1
    go_enter Try.func24, Try.ntmps24
    go_wp2_with fail
    refine HC.out.mono ?_
    rintro e w1 ⟨rfl, hs⟩
    have HS := Lib.hid hs
    clear hs
    go_wp2_with fail
    go_ret
    exact ⟨by simp [e2], HS.out⟩

end Go.Proofs.Ytpgmfifieilhkaa
