import Derived.Test.YtihnkijeefkefaaGreatDB
set_option linter.unusedSimpArgs false
set_option linter.unusedVariables false
set_option linter.unusedSectionVars false
set_option linter.unnecessarySimpa false
set_option maxRecDepth 100000
/- Spaces: what they are, and what each call makes of one. Plain. -/
namespace Go.Proofs.YtihnkijeefkefaaGreat

structure Lk where
  f : Nat
  at_ : Nat
  back : Int
  res : Int
  deriving DecidableEq
structure Zp where
  m : Mx
  b : List Nat
  inp : List Nat
  pos : Nat
  ds : List Dd
  fuel : Int
  at_ : Nat
  f : Nat
  pc : Int
  ls : List Lk
  e : Dd

def flr (m : Mx) : Nat := (m.d.length + 31) / 16 * 16
def fnOf (m : Mx) (f : Nat) : Fx := m.f.getD f ⟨0, 0, 0, []⟩
def fsz (g : Fx) : Nat := ((8 * g.r + g.a + 15) / 16 * 16).toNat
def isRg (m : Mx) (f : Nat) (r : Int) : Bool := decide (0 ≤ r ∧ r < (fnOf m f).r)
def Zp.rg (s : Zp) (r : Int) : Bool := isRg s.m s.f r
def isPl (n : Int) : Bool := decide (0 ≤ n ∧ n < 4096)
def rd8 (b : List Nat) (a : Nat) : Nat := unle ((b.drop a).take 8)
def wr8 (b : List Nat) (a v : Nat) : List Nat := b.take a ++ le v 8 ++ b.drop (a + 8)

def Zp.getS (s : Zp) (r : Int) : Nat × Int := if s.e.1 ≠ 0 then (0, 9) else if s.rg r = false then (0, 5) else (rd8 s.b (s.at_ + 8 * r.toNat), 0)
def Zp.putR (s : Zp) (r v : Nat) : Zp := { s with b := wr8 s.b (s.at_ + 8 * r) v }
def Zp.setS (s : Zp) (r : Int) (v : Nat) : Zp × Int := if s.e.1 ≠ 0 then (s, 9) else if s.rg r = false then (s, 5) else (s.putR r.toNat v, 0)
def Zp.goS (s : Zp) (n : Int) : Zp × Int := if s.e.1 ≠ 0 then (s, 9) else if isPl n = false then (s, 5) else ({ s with pc := n }, 0)
def Zp.burnS (s : Zp) (n : Int) : Zp × Int := if s.e.1 ≠ 0 then (s, 9) else if n < 0 ∨ s.fuel < n then (s, 2) else ({ s with fuel := s.fuel - n }, 0)
def Zp.argsS (s : Zp) (l : List Int) : List Nat := l.map fun r => rd8 s.b (s.at_ + 8 * r.toNat)
def Zp.layS : Zp → Nat → List Nat → Zp
  | s, _, [] => s
  | s, k, v :: l => Zp.layS (s.putR k v) (k + 1) l
def Zp.full (s : Zp) (f : Int) : Bool := decide (s.at_ < flr s.m + fsz (fnOf s.m f.toNat) ∨ 256 ≤ s.ls.length)
def Zp.down (s : Zp) (f res back : Int) : Zp := { s with ls := s.ls ++ [⟨s.f, s.at_, back, res⟩], f := f.toNat, at_ := s.at_ - fsz (fnOf s.m f.toNat), pc := 0 }
def Zp.badF (s : Zp) (f : Int) (n : Nat) : Bool := decide (f < 0 ∨ (s.m.f.length : Int) ≤ f ∨ (n : Int) ≠ (fnOf s.m f.toNat).p)
def Zp.badR (s : Zp) (args : List Int) (res back : Int) : Bool := !s.rg res || !isPl back || args.any (fun r => !s.rg r)
def Zp.callS (s : Zp) (f : Int) (args : List Int) (res back : Int) : Zp × Int :=
  if s.e.1 ≠ 0 then (s, 9)
  else if s.badF f args.length then (s, 2)
  else if s.badR args res back then (s, 5)
  else if s.full f then ({ s with e := (3, 0) }, 0)
  else ((s.down f res back).layS 0 (s.argsS args), 0)
def Zp.up (s : Zp) (x : Lk) : Zp := { s with ls := s.ls.dropLast, f := x.f, at_ := x.at_, pc := x.back }
def Zp.retS (s : Zp) (v : Nat) : Zp × Int :=
  if s.e.1 ≠ 0 then (s, 9)
  else match s.ls.getLast? with
    | none => ({ s with e := (1, (v % 256 : Nat)) }, 0)
    | some x => (s.up x).setS x.res v
def Zp.stopS (s : Zp) (e : Dd) : Zp × Int := if s.e.1 ≠ 0 then (s, 9) else if mayE e = false then (s, 2) else ({ s with e := e }, 0)
def Zp.got (s : Zp) : Zp := { s with pos := tgA s.inp s.pos, ds := s.ds ++ [(1, tgB s.inp s.pos)] }
def Zp.getbS (s : Zp) : Zp × Int × Int := if s.e.1 ≠ 0 then (s, 0, 9) else (s.got, tgB s.inp s.pos, 0)
def Zp.putbS (s : Zp) (n : Int) : Zp × Int := if s.e.1 ≠ 0 then (s, 9) else ({ s with ds := s.ds ++ [(2, n % 256)] }, 0)
def inB (n a k : Nat) : Bool := decide (16 ≤ a ∧ a + k ≤ n)
def Zp.stoS (s : Zp) (a v : Nat) : Zp × Int := if inB s.b.length a 8 then ({ s with b := wr8 s.b a v }, 0) else (s, 15)

/-! ### what holds of all -/
structure LkOk (s : Zp) (l : Lk) : Prop where
  fi : l.f < s.m.f.length
  lo : flr s.m ≤ l.at_
  fit : l.at_ + 8 * (fnOf s.m l.f).r.toNat ≤ s.b.length
  al : l.at_ ≤ s.b.length
  a16 : l.at_ % 16 = 0
  rg : isRg s.m l.f l.res = true
  pl : isPl l.back = true
structure Zp.Ok (s : Zp) : Prop where
  ck : modCk s.m = 0
  sm : s.m.Small
  bl : s.b.length ≤ 65536
  b16 : s.b.length % 16 = 0
  bb : ∀ x ∈ s.b, x < 256
  lo : flr s.m ≤ s.at_
  al : s.at_ ≤ s.b.length
  a16 : s.at_ % 16 = 0
  fi : s.f < s.m.f.length
  fit : s.e.1 = 0 → s.at_ + 8 * (fnOf s.m s.f).r.toNat ≤ s.b.length
  ls : ∀ l ∈ s.ls, LkOk s l
  ll : s.ls.length ≤ 256
  ip : s.pos ≤ s.inp.length
  il : s.inp.length ≤ 100000
  ib : ∀ x ∈ s.inp, x < 256
  f0 : 0 ≤ s.fuel
  f1 : s.fuel ≤ 10000000
  pl : isPl s.pc = true
  em : s.e = (0, 0) ∨ mayE s.e = true

theorem ck_fn {m : Mx} (h : modCk m = 0) {g : Fx} (hg : g ∈ m.f) : 0 ≤ g.p ∧ g.p ≤ 8 ∧ g.p ≤ g.r ∧ g.r ≤ 64 ∧ 0 ≤ g.a ∧ g.a ≤ 4096 := by
  unfold modCk at h
  split at h
  · cases h
  · split at h
    · cases h
    · exact numBad_false (fnCk_zero (firstBad_zero h g hg)).1
theorem ck_len {m : Mx} (h : modCk m = 0) : m.d.length ≤ 8192 ∧ 1 ≤ m.f.length ∧ m.f.length ≤ 64 := by
  unfold modCk at h
  split at h
  · cases h
  · split at h
    · cases h
    · omega
theorem fnOf_get {m : Mx} {f : Nat} (h : f < m.f.length) : fnOf m f = m.f[f] := by simp [fnOf, List.getD_eq_getElem?_getD, List.getElem?_eq_getElem h]
theorem fnOf_mem {m : Mx} {f : Nat} (h : f < m.f.length) : fnOf m f ∈ m.f := by rw [fnOf_get h]; exact List.getElem_mem h
theorem fnOf_ck {m : Mx} (hm : modCk m = 0) {f : Nat} (h : f < m.f.length) : 0 ≤ (fnOf m f).p ∧ (fnOf m f).p ≤ 8 ∧ (fnOf m f).p ≤ (fnOf m f).r ∧ (fnOf m f).r ≤ 64 ∧ 0 ≤ (fnOf m f).a ∧ (fnOf m f).a ≤ 4096 := ck_fn hm (fnOf_mem h)
theorem fsz_16 (g : Fx) : fsz g % 16 = 0 := by unfold fsz; omega
theorem fsz_ge {g : Fx} (h : 0 ≤ g.a) : 8 * g.r.toNat ≤ fsz g := by unfold fsz; omega
theorem flr_16 (m : Mx) : flr m % 16 = 0 := by unfold flr; omega
theorem flr_ge (m : Mx) : 16 ≤ flr m := by unfold flr; omega

theorem wr8_len {b : List Nat} {a : Nat} (v : Nat) (h : a + 8 ≤ b.length) : (wr8 b a v).length = b.length := by
  simp only [wr8, List.length_append, List.length_take, List.length_drop, le_len]; omega
theorem wr8_lt {b : List Nat} (h : ∀ x ∈ b, x < 256) (a v : Nat) : ∀ x ∈ wr8 b a v, x < 256 := by
  intro x hx
  simp only [wr8, List.mem_append] at hx
  rcases hx with (hx | hx) | hx
  · exact h x (List.mem_of_mem_take hx)
  · exact le_lt v 8 x hx
  · exact h x (List.mem_of_mem_drop hx)
theorem wr8_get {b : List Nat} {a : Nat} (v : Nat) (h : a + 8 ≤ b.length) {i : Nat} (hi : i < a ∨ a + 8 ≤ i) : (wr8 b a v)[i]? = b[i]? := by
  unfold wr8
  rcases hi with hi | hi
  · rw [List.append_assoc, List.getElem?_append_left (by simp; omega), List.getElem?_take_of_lt hi]
  · rw [List.getElem?_append_right (by simp [le_len]; omega), List.getElem?_drop]
    congr 1
    simp [le_len]; omega
theorem rd8_lt {b : List Nat} (h : ∀ x ∈ b, x < 256) (a : Nat) : rd8 b a < 18446744073709551616 := by
  unfold rd8
  have h1 := unle_lt ((b.drop a).take 8) (fun x hx => h x (List.mem_of_mem_drop (List.mem_of_mem_take hx)))
  have h2 : 256 ^ ((b.drop a).take 8).length ≤ 256 ^ 8 := Nat.pow_le_pow_right (by decide) (by simp; omega)
  omega

/-! ### what each call leaves as it was -/
section
variable {s : Zp}
theorem Zp.Ok.fix {s s' : Zp} (h : s.Ok) (hm : s'.m = s.m) (hb : s'.b.length = s.b.length) (hbb : ∀ x ∈ s'.b, x < 256) (hi : s'.inp = s.inp) (hp : s'.pos ≤ s.inp.length) (ha : s'.at_ = s.at_) (hf : s'.f = s.f) (hls : s'.ls = s.ls)
    (h0 : 0 ≤ s'.fuel) (h1 : s'.fuel ≤ 10000000) (hpl : isPl s'.pc = true) (he : s'.e = (0, 0) ∨ mayE s'.e = true) (hee : s'.e.1 = 0 → s.e.1 = 0) : s'.Ok := by
  refine ⟨hm ▸ h.ck, hm ▸ h.sm, hb ▸ h.bl, hb ▸ h.b16, hbb, by rw [hm, ha]; exact h.lo, by rw [ha, hb]; exact h.al, ha ▸ h.a16, by rw [hf, hm]; exact h.fi, fun e0 => by rw [ha, hm, hf, hb]; exact h.fit (hee e0), ?_, hls ▸ h.ll, hi ▸ hp, hi ▸ h.il, hi ▸ h.ib, h0, h1, hpl, he⟩
  intro l hl
  have k := h.ls l (hls ▸ hl)
  exact ⟨hm ▸ k.fi, hm ▸ k.lo, by rw [hm, hb]; exact k.fit, hb ▸ k.al, k.a16, hm ▸ k.rg, k.pl⟩
theorem Zp.Ok.inR (h : s.Ok) (he : s.e.1 = 0) {r : Int} (hr : s.rg r = true) : 0 ≤ r ∧ r < 64 ∧ s.at_ + 8 * r.toNat + 8 ≤ s.b.length ∧ 16 ≤ s.at_ + 8 * r.toNat := by
  have h1 := h.fit he
  have h2 := (fnOf_ck h.ck h.fi).2.2.2.1
  have h3 := flr_ge s.m
  have h4 := h.lo
  simp only [Zp.rg, isRg, decide_eq_true_eq] at hr
  omega
theorem Zp.Ok.putR (h : s.Ok) {r v : Nat} (hr : s.at_ + 8 * r + 8 ≤ s.b.length) : (s.putR r v).Ok :=
  h.fix rfl (wr8_len v hr) (wr8_lt h.bb _ _) rfl h.ip rfl rfl rfl h.f0 h.f1 h.pl h.em id
theorem Zp.Ok.setS (h : s.Ok) (r : Int) (v : Nat) : (s.setS r v).1.Ok := by
  unfold Zp.setS
  split
  · exact h
  · rename_i he
    split
    · exact h
    · rename_i hr
      exact h.putR (h.inR (by simpa using he) (by simpa using hr)).2.2.1
theorem Zp.Ok.goS (h : s.Ok) (n : Int) : (s.goS n).1.Ok := by
  unfold Zp.goS
  split
  · exact h
  · split
    · exact h
    · rename_i hr
      exact h.fix rfl rfl h.bb rfl h.ip rfl rfl rfl h.f0 h.f1 (by simpa using hr) h.em id
theorem Zp.Ok.burnS (h : s.Ok) (n : Int) : (s.burnS n).1.Ok := by
  have := h.f1
  unfold Zp.burnS
  split
  · exact h
  · split
    · exact h
    · exact h.fix rfl rfl h.bb rfl h.ip rfl rfl rfl (by dsimp only; omega) (by dsimp only; omega) h.pl h.em id
theorem Zp.Ok.stopS (h : s.Ok) (e : Dd) : (s.stopS e).1.Ok := by
  unfold Zp.stopS
  split
  · exact h
  · rename_i he
    split
    · exact h
    · rename_i hr
      exact h.fix rfl rfl h.bb rfl h.ip rfl rfl rfl h.f0 h.f1 h.pl (.inr (by simpa using hr)) (fun _ => by simpa using he)
theorem Zp.Ok.stoS (h : s.Ok) (a v : Nat) : (s.stoS a v).1.Ok := by
  unfold Zp.stoS
  split
  · rename_i hi
    simp only [inB, decide_eq_true_eq] at hi
    exact h.fix rfl (wr8_len v hi.2) (wr8_lt h.bb _ _) rfl h.ip rfl rfl rfl h.f0 h.f1 h.pl h.em id
  · exact h
theorem layS_same : ∀ (l : List Nat) (s : Zp) (k : Nat), (s.layS k l).m = s.m ∧ (s.layS k l).inp = s.inp ∧ (s.layS k l).pos = s.pos ∧ (s.layS k l).ds = s.ds ∧ (s.layS k l).fuel = s.fuel ∧ (s.layS k l).at_ = s.at_ ∧ (s.layS k l).f = s.f ∧ (s.layS k l).pc = s.pc ∧ (s.layS k l).ls = s.ls ∧ (s.layS k l).e = s.e
  | [], s, k => ⟨rfl, rfl, rfl, rfl, rfl, rfl, rfl, rfl, rfl, rfl⟩
  | v :: l, s, k => layS_same l (s.putR k v) (k + 1)
theorem Zp.Ok.layS : ∀ (l : List Nat) {s : Zp} (_ : s.Ok) (k : Nat), s.at_ + 8 * (k + l.length) ≤ s.b.length → (s.layS k l).Ok
  | [], s, h, k, _ => h
  | v :: l, s, h, k, hk => by
    have hk' : s.at_ + 8 * (k + (l.length + 1)) ≤ s.b.length := hk
    have h8 : s.at_ + 8 * k + 8 ≤ s.b.length := by omega
    have := Zp.Ok.layS l (h.putR (v := v) h8) (k + 1)
    refine this ?_
    show s.at_ + 8 * (k + 1 + l.length) ≤ (wr8 s.b (s.at_ + 8 * k) v).length
    rw [wr8_len v h8]
    omega
/-- a call that may be goes down -/
theorem Zp.Ok.down (h : s.Ok) (he : s.e.1 = 0) {f res back : Int} {n : Nat} (hf : s.badF f n = false) (hr : s.rg res = true) (hp : isPl back = true) (hfl : s.full f = false) : (s.down f res back).Ok := by
  simp only [Zp.badF, decide_eq_false_iff_not, not_or] at hf
  simp only [Zp.full, decide_eq_false_iff_not, not_or] at hfl
  have hfi : f.toNat < s.m.f.length := by omega
  have c := fnOf_ck h.ck hfi
  have h1 := fsz_ge c.2.2.2.2.1
  have h2 := fsz_16 (fnOf s.m f.toNat)
  have h3 := h.al
  have h4 := h.a16
  have h5 := flr_16 s.m
  have h6 := h.ll
  refine ⟨h.ck, h.sm, h.bl, h.b16, h.bb, ?_, ?_, ?_, hfi, fun _ => ?_, ?_, ?_, h.ip, h.il, h.ib, h.f0, h.f1, rfl, h.em⟩
  · show flr s.m ≤ s.at_ - _; omega
  · show s.at_ - _ ≤ s.b.length; omega
  · show (s.at_ - fsz _) % 16 = 0; omega
  · show s.at_ - fsz _ + 8 * (fnOf s.m f.toNat).r.toNat ≤ s.b.length; omega
  · intro l hl
    rcases List.mem_append.1 hl with hl | hl
    · have k := h.ls l hl
      exact ⟨k.fi, k.lo, k.fit, k.al, k.a16, k.rg, k.pl⟩
    · simp only [List.mem_singleton] at hl
      subst hl
      exact ⟨h.fi, h.lo, h.fit he, h.al, h.a16, hr, hp⟩
  · show (s.ls ++ [_]).length ≤ 256
    simp; omega
theorem Zp.Ok.up (h : s.Ok) (he : s.e.1 = 0) {x : Lk} (hx : s.ls.getLast? = some x) : (s.up x).Ok ∧ (s.up x).rg x.res = true := by
  have k := h.ls x (List.mem_of_getLast? hx)
  refine ⟨⟨h.ck, h.sm, h.bl, h.b16, h.bb, k.lo, k.al, k.a16, k.fi, fun _ => k.fit, fun l hl => ?_, ?_, h.ip, h.il, h.ib, h.f0, h.f1, k.pl, h.em⟩, k.rg⟩
  · have k2 := h.ls l ((List.dropLast_sublist s.ls).subset hl)
    exact ⟨k2.fi, k2.lo, k2.fit, k2.al, k2.a16, k2.rg, k2.pl⟩
  · have := h.ll
    show s.ls.dropLast.length ≤ 256
    simp; omega
theorem Zp.Ok.retS (h : s.Ok) (v : Nat) : (s.retS v).1.Ok := by
  unfold Zp.retS
  split
  · exact h
  · rename_i he
    have he : s.e.1 = 0 := by simpa using he
    split
    · refine h.fix rfl rfl h.bb rfl h.ip rfl rfl rfl h.f0 h.f1 h.pl (.inr ?_) (fun _ => he)
      simp only [mayE, if_true, decide_eq_true_eq]
      omega
    · rename_i x hx
      exact (h.up he hx).1.setS _ _
end

end Go.Proofs.YtihnkijeefkefaaGreat
