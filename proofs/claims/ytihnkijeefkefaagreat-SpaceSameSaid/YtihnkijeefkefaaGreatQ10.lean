import Derived.Test.YtihnkijeefkefaaGreatQ9
import Derived.Test.YtihnkijeefkefaaGreatQ3
set_option linter.unusedSimpArgs false
set_option linter.unusedVariables false
set_option linter.unusedSectionVars false
set_option linter.unnecessarySimpa false
set_option maxRecDepth 100000
/- The program's space: where it lies. -/
namespace Go.Proofs.YtihnkijeefkefaaGreat
open Go.RowKit

attribute [local go_sem] Program.isFuncB Program.isSliceB

variable {w w' w'' w0 : World}

/-- what holds in every world that agrees on these blocks -/
def Stab (R : Nat → Prop) (w : World) (Φ : World → Prop) : Prop := ∀ w', Fr (fun k => ¬ R k) w w' → Φ w'
theorem Stab.now {R : Nat → Prop} {Φ : World → Prop} (h : Stab R w Φ) : Φ w := h w (Fr.refl _ w)
theorem Stab.fr {R S : Nat → Prop} {Φ : World → Prop} (h : Stab R w Φ) (r : Fr S w w') (hd : ∀ k, R k → k < w.heap.size → ¬ S k) : Stab R w' Φ := fun w2 r2 =>
  h w2 ((r.mono (fun k hs hl hr => hd k hr hl hs)).trans r2)
theorem Stab.mono {R R' : Nat → Prop} {Φ : World → Prop} (h : Stab R w Φ) (hR : ∀ k, R k → R' k) : Stab R' w Φ := fun w2 r2 => h w2 (r2.mono (fun k hk _ hr => hk (hR k hr)))

def linksC (l : List Lk) : List Value := l.flatMap fun x => [.int .i64 x.f, .int .i64 x.at_, .int .i64 x.back, .int .i64 x.res]
theorem linksC_len (l : List Lk) : (linksC l).length = l.length * 4 := by
  induction l with
  | nil => rfl
  | cons x l ih => simp only [linksC, List.flatMap_cons, List.length_append, List.length_cons, List.length_nil] at *; omega
theorem linksC_one (l : List Lk) : ∀ u ∈ linksC l, u.oneCell' = true := by
  intro u hu
  simp only [linksC, List.mem_flatMap, List.mem_cons, List.not_mem_nil, or_false] at hu
  obtain ⟨d, _, rfl | rfl | rfl | rfl⟩ := hu <;> rfl
theorem linksC_app (l m : List Lk) : linksC (l ++ m) = linksC l ++ linksC m := by simp [linksC]

structure Pz where
  da : Option Addr
  dc : Nat
  fa : Option Addr
  fc : Nat
  iv : Value
  q : Nat
  g : Nat
  c : Nat
  t : Nat
  tv : Value
  lv : Value
  kv : Value
def spCells (s : Zp) (z : Pz) : Array Value := #[.int .u32 1, .int .i32 0, .int .u32 0, .int .i64 0, .slice z.da s.m.d.length z.dc, .slice z.fa s.m.f.length z.fc, z.iv, .int .i64 s.b.length,
  .pointer (some ⟨z.q, 0, none⟩), .pointer (some ⟨z.t, 0, none⟩), .int .i64 s.fuel, .int .u64 (flr s.m), .int .u64 s.at_, .int .i64 s.f, .int .i64 s.pc, z.kv, .int .i64 s.e.1, .int .i64 s.e.2]
structure SpAt (w : World) (O R : Nat → Prop) (p : Nat) (s : Zp) (z : Pz) : Prop where
  obj : w.heap[p]? = some (.cells (spCells s z) 94 (0, 0))
  mem : MemAt w z.q z.g s.b.length z.c s.b
  tape : TapeAt w 0 z.t s.inp s.pos s.ds z.tv z.lv
  links : w.ownsRow 0 121 4 z.kv s.ls.length (linksC s.ls)
  ro : Stab R w (fun w' => ModIn w' s.m z.da z.dc z.fa ∧ Reads w' z.iv 1 s.inp.length (u8s s.inp))
  ok : s.Ok
  op : O p
  og : O z.g
  ot : O z.t
  ol : ∀ k, z.lv.ownBlock = some k → O k
  okv : ∀ k, z.kv.ownBlock = some k → O k
  rq : R z.q
  rt : ∀ k, z.tv.ownBlock = some k → R k
  dis : ∀ k, O k → ¬ R k
  lt : ∀ k, O k ∨ R k → k < w.heap.size
section
variable {O R : Nat → Prop} {p : Nat} {s : Zp} {z : Pz}
theorem SpAt.frx {S : Nat → Prop} (h : SpAt w O R p s z) (r : Fr S w w') (hS : ∀ k, S k → k < w.heap.size → ¬ O k ∧ ¬ R k) : SpAt w' O R p s z := by
  have hO : ∀ k, O k → ¬ S k := fun k ho hs => (hS k hs (h.lt k (.inl ho))).1 ho
  have hR : ∀ k, R k → ¬ S k := fun k ho hs => (hS k hs (h.lt k (.inr ho))).2 ho
  exact ⟨r.heap h.obj (hO _ h.op), h.mem.frx r (hR _ h.rq) (hO _ h.og), h.tape.frx r (hO _ h.ot) (fun k hk => hR _ (h.rt k hk)) (fun k hk => hO _ (h.ol k hk)),
    owns_fr h.links r (fun k hk => hO _ (h.okv k hk)), h.ro.fr r (fun k hk _ => hR k hk), h.ok, h.op, h.og, h.ot, h.ol, h.okv, h.rq, h.rt, h.dis, fun k hk => Nat.lt_of_lt_of_le (h.lt k hk) r.size⟩
theorem SpAt.fr (h : SpAt w O R p s z) (r : Fr no w w') : SpAt w' O R p s z := h.frx r (fun _ h => h.elim)
theorem SpAt.pg (h : SpAt w O R p s z) : p ≠ z.g := by obtain ⟨cur, hg, -⟩ := h.mem.block; exact block_ne h.obj hg (by decide)
theorem SpAt.pt (h : SpAt w O R p s z) : p ≠ z.t := block_ne h.obj h.tape.obj (by decide)
theorem SpAt.gt (h : SpAt w O R p s z) : z.g ≠ z.t := by obtain ⟨cur, hg, -⟩ := h.mem.block; exact block_ne hg h.tape.obj (by decide)
theorem SpAt.tabs (h : SpAt w O R p s z) : ModIn w s.m z.da z.dc z.fa := h.ro.now.1
theorem SpAt.fn (h : SpAt w O R p s z) {k : Nat} (hk : k < s.m.f.length) : ∃ b o, z.fa = some ⟨b, o, none⟩ ∧ w.cell? ⟨b, o + k * 4, none⟩ = some (.int .i64 (fnOf s.m k).p) ∧ w.cell? ⟨b, o + k * 4 + 1, none⟩ = some (.int .i64 (fnOf s.m k).r) ∧ w.cell? ⟨b, o + k * 4 + 2, none⟩ = some (.int .i64 (fnOf s.m k).a) := by
  obtain ⟨b, o, ca, cc, h1, h2⟩ := h.tabs.fns k hk
  have h4 := h2.four
  rw [← fnOf_get hk] at h4
  exact ⟨b, o, h1, h4.1, h4.2.1, h4.2.2.1⟩
/-- fields are turned -/
theorem SpAt.turn {s' : Zp} (h : SpAt w O R p s z) (r : Fr (only [p]) w w') (ho : w'.heap[p]? = some (.cells (spCells s' z) 94 (0, 0))) (hm : s'.m = s.m) (hb : s'.b = s.b) (hi : s'.inp = s.inp) (hp : s'.pos = s.pos) (hd : s'.ds = s.ds) (hl : s'.ls = s.ls) (hok : s'.Ok) : SpAt w' O R p s' z := by
  have hpR : ¬ R p := h.dis p h.op
  refine ⟨ho, by rw [hb]; exact h.mem.frx r (by simp; exact fun e => hpR (e ▸ h.rq)) (by simp; exact fun e => h.pg e.symm), ?_, ?_, ?_, hok, h.op, h.og, h.ot, h.ol, h.okv, h.rq, h.rt, h.dis, fun k hk => Nat.lt_of_lt_of_le (h.lt k hk) r.size⟩
  · rw [hi, hp, hd]
    exact h.tape.frx r (by simp; exact fun e => h.pt e.symm) (fun k hk e => by simp at e; subst e; exact hpR (h.rt _ hk)) (fun k hk e => by simp at e; subst e; exact row_block_ne h.tape.out h.obj (by decide) hk)
  · rw [hl]
    exact owns_fr h.links r (fun k hk e => by simp at e; subst e; exact row_block_ne h.links h.obj (by decide) hk)
  · rw [hm, hi]
    exact h.ro.fr r (fun k hk _ e => by simp at e; subst e; exact hpR hk)
/-- bytes are turned -/
theorem SpAt.turnB {b' : List Nat} (h : SpAt w O R p s z) (r : Fr (only [z.g]) w w') (hm : MemAt w' z.q z.g s.b.length z.c b') (hok : ({ s with b := b' } : Zp).Ok) : SpAt w' O R p { s with b := b' } z := by
  have hgR : ¬ R z.g := h.dis _ h.og
  have hl : b'.length = s.b.length := hm.len
  obtain ⟨cur, hg, -⟩ := h.mem.block
  refine ⟨?_, by show MemAt w' z.q z.g b'.length z.c b'; rw [hl]; exact hm, ?_, ?_, ?_, hok, h.op, h.og, h.ot, h.ol, h.okv, h.rq, h.rt, h.dis, fun k hk => Nat.lt_of_lt_of_le (h.lt k hk) r.size⟩
  · have := r.heap h.obj (by simp [h.pg])
    rw [this]
    unfold spCells
    rw [hl]
  · exact h.tape.frx r (by simp; exact fun e => h.gt e.symm) (fun k hk e => by simp at e; subst e; exact hgR (h.rt _ hk)) (fun k hk e => by simp at e; subst e; exact row_block_ne h.tape.out hg (by decide) hk)
  · exact owns_fr h.links r (fun k hk e => by simp at e; subst e; exact row_block_ne h.links hg (by decide) hk)
  · exact h.ro.fr r (fun k hk _ e => by simp at e; subst e; exact hgR hk)

/-! ### what it tells -/
theorem snone_ok (w : World) (h : SpAt w O R p s z) : Calls Tryz.prog 60 #[.pointer (some ⟨p, 0, none⟩)] w fun e w' => e = .returned (.bool false) ∧ w = w' := by
  have c0 : w.cell? ⟨p, 8, none⟩ = some (.pointer (some ⟨z.q, 0, none⟩)) := cell_of_heap h.obj rfl
  clear h
  go_enter Tryz.func60, Tryz.ntmps60
  go_wp2_with fail
  go_ret
  exact ⟨rfl, rfl⟩
theorem smade_ok (w : World) (h : SpAt w O R p s z) : Calls Tryz.prog 57 #[.pointer (some ⟨p, 0, none⟩)] w fun e w' => e = .returned (.int .i64 0) ∧ Fr no w w' := by
  have r1 := (Fr.refl no w).alloc (.cells #[.pointer (some ⟨p, 0, none⟩)] 30)
  have HN := Lib.hid (heap_new w (.cells #[.pointer (some ⟨p, 0, none⟩)] 30))
  have c0 : (w.alloc (.cells #[.pointer (some ⟨p, 0, none⟩)] 30)).cell? ⟨p, 0, none⟩ = some (.int .u32 1) := cell_of_heap (h.fr r1).obj rfl
  have c3 : (w.alloc (.cells #[.pointer (some ⟨p, 0, none⟩)] 30)).cell? ⟨p, 3, none⟩ = some (.int .i64 0) := cell_of_heap (h.fr r1).obj rfl
  have cn : (w.alloc (.cells #[.pointer (some ⟨p, 0, none⟩)] 30)).cell? ⟨w.heap.size, 0, none⟩ = some (.pointer (some ⟨p, 0, none⟩)) := cell_of_heap HN.out rfl
  have R1 := Lib.hid r1
  clear r1 h
  go_enter Tryz.func57, Tryz.ntmps57
  go_wp2_with fail
  refine (do_done _ 1 (by decide) _ _ c0).mono ?_
  rintro e w' ⟨rfl, rfl⟩
  go_wp2_with fail
  go_ret
  exact ⟨rfl, R1.out⟩
def Zp.ask (s : Zp) : Int := if s.e.1 ≠ 0 then 9 else 0
theorem sasked_ok (w : World) (h : SpAt w O R p s z) : Calls Tryz.prog 61 #[.pointer (some ⟨p, 0, none⟩)] w fun e w' => e = .returned (.int .i64 s.ask) ∧ Fr no w w' := by
  have HN := Lib.hid (snone_ok w h)
  have HM := Lib.hid (smade_ok w h)
  have C := Lib.hid (fun w' (r : Fr no w w') => (cell_of_heap (h.fr r).obj rfl : w'.cell? ⟨p, 16, none⟩ = some (.int .i64 s.e.1)))
  by_cases he : s.e.1 = 0
  · have HA : Hid (s.ask = 0) := Lib.hid (by simp [Zp.ask, he])
    rw [he] at C
    clear h he
    go_enter Tryz.func61, Tryz.ntmps61
    go_wp2_with fail
    refine HN.out.mono ?_
    rintro e w' ⟨rfl, rfl⟩
    go_wp2_with fail
    refine HM.out.mono ?_
    rintro e w1 ⟨rfl, r1⟩
    have c := C.out w1 r1
    have R1 := Lib.hid r1
    clear r1
    go_wp2_with fail
    go_ret
    exact ⟨by rw [HA.out]; rfl, R1.out⟩
  · have HA : Hid (s.ask = 9) := Lib.hid (by simp [Zp.ask, he])
    have hb : (s.e.1 != 0) = true := by simpa using he
    clear h he
    go_enter Tryz.func61, Tryz.ntmps61
    go_wp2_with fail
    refine HN.out.mono ?_
    rintro e w' ⟨rfl, rfl⟩
    go_wp2_with fail
    refine HM.out.mono ?_
    rintro e w1 ⟨rfl, r1⟩
    have c := C.out w1 r1
    have R1 := Lib.hid r1
    clear r1
    go_wp2_with fail
    go_ret
    exact ⟨by rw [HA.out]; rfl, R1.out⟩
theorem smemory_ok (w : World) (h : SpAt w O R p s z) : Calls Tryz.prog 30 #[.pointer (some ⟨p, 0, none⟩)] w fun e w' => e = .returned (.pointer (some ⟨z.q, 0, none⟩)) ∧ w = w' := by
  have HN := Lib.hid (snone_ok w h)
  have c : w.cell? ⟨p, 8, none⟩ = some (.pointer (some ⟨z.q, 0, none⟩)) := cell_of_heap h.obj rfl
  clear h
  go_enter Tryz.func30, Tryz.ntmps30
  go_wp2_with fail
  refine HN.out.mono ?_
  rintro e w' ⟨rfl, rfl⟩
  go_wp2_with fail
  go_ret
  exact ⟨rfl, rfl⟩
theorem sfunc_ok (w : World) (h : SpAt w O R p s z) : Calls Tryz.prog 28 #[.pointer (some ⟨p, 0, none⟩)] w fun e w' => e = .returned (.int .i64 s.f) ∧ w = w' := by
  have HN := Lib.hid (snone_ok w h)
  have c : w.cell? ⟨p, 13, none⟩ = some (.int .i64 s.f) := cell_of_heap h.obj rfl
  clear h
  go_enter Tryz.func28, Tryz.ntmps28
  go_wp2_with fail
  refine HN.out.mono ?_
  rintro e w' ⟨rfl, rfl⟩
  go_wp2_with fail
  go_ret
  exact ⟨rfl, rfl⟩
theorem splace2_ok (w : World) (h : SpAt w O R p s z) : Calls Tryz.prog 32 #[.pointer (some ⟨p, 0, none⟩)] w fun e w' => e = .returned (.int .i64 s.pc) ∧ w = w' := by
  have HN := Lib.hid (snone_ok w h)
  have c : w.cell? ⟨p, 14, none⟩ = some (.int .i64 s.pc) := cell_of_heap h.obj rfl
  clear h
  go_enter Tryz.func32, Tryz.ntmps32
  go_wp2_with fail
  refine HN.out.mono ?_
  rintro e w' ⟨rfl, rfl⟩
  go_wp2_with fail
  go_ret
  exact ⟨rfl, rfl⟩
theorem sat_ok (w : World) (h : SpAt w O R p s z) : Calls Tryz.prog 29 #[.pointer (some ⟨p, 0, none⟩)] w fun e w' => e = .returned (.int .u64 s.at_) ∧ w = w' := by
  have HN := Lib.hid (snone_ok w h)
  have c : w.cell? ⟨p, 12, none⟩ = some (.int .u64 s.at_) := cell_of_heap h.obj rfl
  clear h
  go_enter Tryz.func29, Tryz.ntmps29
  go_wp2_with fail
  refine HN.out.mono ?_
  rintro e w' ⟨rfl, rfl⟩
  go_wp2_with fail
  go_ret
  exact ⟨rfl, rfl⟩
theorem sfuel_ok (w : World) (h : SpAt w O R p s z) : Calls Tryz.prog 40 #[.pointer (some ⟨p, 0, none⟩)] w fun e w' => e = .returned (.int .i64 s.fuel) ∧ w = w' := by
  have HN := Lib.hid (snone_ok w h)
  have c : w.cell? ⟨p, 10, none⟩ = some (.int .i64 s.fuel) := cell_of_heap h.obj rfl
  clear h
  go_enter Tryz.func40, Tryz.ntmps40
  go_wp2_with fail
  refine HN.out.mono ?_
  rintro e w' ⟨rfl, rfl⟩
  go_wp2_with fail
  refine (aload_ok _ _ _ c).mono ?_
  rintro e w' ⟨rfl, rfl⟩
  go_wp2_with fail
  go_ret
  exact ⟨rfl, rfl⟩
theorem sdepth_ok (w : World) (h : SpAt w O R p s z) : Calls Tryz.prog 17 #[.pointer (some ⟨p, 0, none⟩)] w fun e w' => e = .returned (.int .i64 s.ls.length) ∧ w = w' := by
  have HN := Lib.hid (snone_ok w h)
  obtain ⟨ka, kc, hkv⟩ := owns_shape h.links
  have c : w.cell? ⟨p, 15, none⟩ = some z.kv := cell_of_heap h.obj rfl
  rw [hkv] at c
  clear h hkv
  go_enter Tryz.func17, Tryz.ntmps17
  go_wp2_with fail
  refine HN.out.mono ?_
  rintro e w' ⟨rfl, rfl⟩
  go_wp2_with fail
  go_ret
  exact ⟨rfl, rfl⟩
end

end Go.Proofs.YtihnkijeefkefaaGreat
