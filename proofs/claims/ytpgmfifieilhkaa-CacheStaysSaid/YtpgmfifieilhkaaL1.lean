import Derived.Test.YtpgmfifieilhkaaK7
namespace Go.Proofs.Ytpgmfifieilhkaa
open Go.RowKit

attribute [local go_sem] Program.isFuncB Program.isSliceB

variable {w w' w'' : World} {words : Nat} {P P' P'' : List (Nat × List Nat)} {s s' : CS} {r r' : RS}

theorem address_lit (h : CSt w words P s) {b : Nat} (hb : s.b = b) (f : Int) {a : Nat} {is : Bool} (hs : addrSpec P f a is) (hnd : (P.map (·.1)).Nodup) :
    Calls Try.prog 16 #[.pointer (some ⟨b, 0, none⟩), .int .i64 f] w fun e w' => e = .returned (.tuple #[.int .u64 a, .bool is]) ∧ ∃ s', CTo w w' words P s P s' := by
  subst hb
  refine (address_all h f).mono ?_
  rintro e w' ⟨⟨a', b', h1, rfl⟩, h2⟩
  obtain ⟨rfl, rfl⟩ := addrSpec_one hnd h1 hs
  exact ⟨rfl, h2⟩

theorem finds_lit (h : CSt w words P s) {b : Nat} (hb : s.b = b) (a : Nat) (n : Int) (is : Bool) (hf : findOf P a = (n, is)) :
    Calls Try.prog 24 #[.pointer (some ⟨b, 0, none⟩), .int .u64 a, .int .i64 n, .bool is] w fun e w' => e = .returned (.bool true) ∧ ∃ s', CTo w w' words P s P s' := by
  subst hb
  refine (finds_all h a n is).mono ?_
  rintro e w' ⟨rfl, h2⟩
  exact ⟨by simp [hf], h2⟩

def PK : List (Nat × List Nat) := [(5, [7, 8]), (6, [9])]

set_option maxRecDepth 100000 in
set_option maxHeartbeats 4000000 in
theorem known_ok (w : World) : Calls Try.prog 6 #[] w fun e w' => e = .returned (.bool true) ∧ Fr no w w' := by
  go_enter Try.func6, Try.ntmps6
  go_wp2_with fail
  refine (new_yes w 3 (by omega)).mono ?_
  rintro e w1 ⟨s, rfl, h1, r1, n1⟩
  have H1 := Lib.hid h1
  have R1 := Lib.hid r1
  have N1 := Lib.hid n1
  clear h1 r1 n1
  go_wp2_with fail
  refine (puts_lit H1.out rfl 5 4294967296 0 [7, 8] _ (by rfl) rfl (by simp) (by simp) (po := (4294967296, 0, [(5, [7, 8])])) (by decide)).mono ?_
  rintro e w2 ⟨rfl, s2, h2⟩
  have H2 := Lib.hid h2
  clear h2
  simp only [beq_self_eq_true, Bool.and_self]
  go_wp2_with fail
  refine (puts_lit (.inl H2.out.at_) H2.out.b 5 0 7 [9] _ (by rfl) rfl (by simp) (by simp) (po := (0, 7, [(5, [7, 8])])) (by decide)).mono ?_
  rintro e w3 ⟨rfl, s3, h3⟩
  have H3 := Lib.hid (H2.out.trans h3)
  clear h3
  simp only [beq_self_eq_true, Bool.and_self]
  go_wp2_with fail
  refine (puts_lit (.inl H3.out.at_) H3.out.b 6 4294967304 0 [9] _ (by rfl) rfl (by simp) (by simp) (po := (4294967304, 0, PK)) (by decide)).mono ?_
  rintro e w4 ⟨rfl, s4, h4⟩
  have H4 := Lib.hid (H3.out.trans h4)
  clear h4
  simp only [beq_self_eq_true, Bool.and_self]
  go_wp2_with fail
  refine (address_lit (.inl H4.out.at_) H4.out.b 6 (a := 4294967304) (is := true) (.inl ⟨1, by decide, by decide, by decide, rfl⟩) H4.out.at_.ok.nd).mono ?_
  rintro e w5 ⟨rfl, s5, h5⟩
  have H5 := Lib.hid (H4.out.trans h5)
  clear h5
  go_wp2_with fail
  refine (address_lit (.inl H5.out.at_) H5.out.b 7 (a := 0) (is := false) (.inr ⟨by decide, rfl, rfl⟩) H5.out.at_.ok.nd).mono ?_
  rintro e w6 ⟨rfl, s6, h6⟩
  have H6 := Lib.hid (H5.out.trans h6)
  clear h6
  go_wp2_with fail
  refine (finds_lit (.inl H6.out.at_) H6.out.b 4294967300 5 true (by decide)).mono ?_
  rintro e w7 ⟨rfl, s7, h7⟩
  have H7 := Lib.hid (H6.out.trans h7)
  clear h7
  go_wp2_with fail
  refine (finds_lit (.inl H7.out.at_) H7.out.b 4294967304 6 true (by decide)).mono ?_
  rintro e w8 ⟨rfl, s8, h8⟩
  have H8 := Lib.hid (H7.out.trans h8)
  clear h8
  go_wp2_with fail
  refine (finds_lit (.inl H8.out.at_) H8.out.b 4294967298 (-1) false (by decide)).mono ?_
  rintro e w9 ⟨rfl, s9, h9⟩
  have H9 := Lib.hid (H8.out.trans h9)
  clear h9
  go_wp2_with fail
  refine (finds_lit (.inl H9.out.at_) H9.out.b 4294967308 (-1) false (by decide)).mono ?_
  rintro e wa ⟨rfl, sa, ha⟩
  have Ha := Lib.hid (H9.out.trans ha)
  clear ha
  go_wp2_with fail
  refine (new_no _ (-1) (by omega)).mono ?_
  rintro e w' ⟨rfl, rfl⟩
  go_wp2_with fail
  refine (new_no _ 65537 (by omega)).mono ?_
  rintro e w' ⟨rfl, rfl⟩
  go_wp2_with fail
  refine (awake_ok _).mono ?_
  rintro e wb ⟨rfl, rb⟩
  have Hb := Lib.hid (CSt.fr (.inl Ha.out.at_) rb (by simp))
  have Kb := Lib.hid (Ha.out.fr.trans rb.to)
  clear rb
  go_wp2_with fail
  refine (puts_lit Hb.out Ha.out.b 64 0 2 [1] _ (by rfl) rfl (by simp) (by simp) (po := (0, 2, PK)) (by decide)).mono ?_
  rintro e wc ⟨rfl, sc, hc⟩
  have Hc := Lib.hid hc
  clear hc
  simp only [beq_self_eq_true, Bool.and_self]
  go_wp2_with fail
  have C := puts_all (.inl Hc.out.at_) 1 0 2 none 0 [] (.inl ⟨rfl, rfl, rfl⟩) (by simp) (by simp) (by intro _ k hk; cases hk)
  rw [show putOf 3 PK 1 [] = (0, 2, PK) from by decide, Hc.out.b, Ha.out.b] at C
  refine C.mono ?_
  clear C
  rintro e wd ⟨rfl, sd, hd⟩
  have Hd := Lib.hid hd
  clear hd
  simp only [beq_self_eq_true, Bool.and_self]
  go_wp2_with fail
  go_ret
  refine ⟨rfl, ?_⟩
  have r2 : Fr (foot s []) w1 wd := by
    refine (Kb.out.trans' Hc.out.fr fun k hk hn => ?_).trans' Hd.out.fr fun k hk hn => ?_
    · exact (Ha.out.ft k hk).resolve_left hn
    · rcases Hc.out.ft k hk with h | h
      · exact (Ha.out.ft k h).resolve_left hn
      · have := Kb.out.size; omega
  exact R1.out.trans' r2 (fun k hk _ => N1.out k hk)

end Go.Proofs.Ytpgmfifieilhkaa
