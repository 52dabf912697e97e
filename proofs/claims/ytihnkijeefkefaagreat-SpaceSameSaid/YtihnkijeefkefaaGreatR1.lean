import Derived.Test.YtihnkijeefkefaaGreatQ16
set_option linter.unusedSimpArgs false
set_option linter.unusedVariables false
set_option linter.unusedSectionVars false
set_option linter.unnecessarySimpa false
set_option maxRecDepth 100000
/- The document's space: where it lies. -/
namespace Go.Proofs.YtihnkijeefkefaaGreat
open Go.RowKit

attribute [local go_sem] Program.isFuncB Program.isSliceB

variable {w w' w'' w0 : World}

def rlinksC (l : List Lk) : List Value := l.flatMap fun x => [.int .i64 x.f, .int .u64 x.at_, .int .i64 x.back, .int .i64 x.res]
theorem rlinksC_len (l : List Lk) : (rlinksC l).length = l.length * 4 := by
  induction l with
  | nil => rfl
  | cons x l ih => simp only [rlinksC, List.flatMap_cons, List.length_append, List.length_cons, List.length_nil] at *; omega
theorem rlinksC_app (l m : List Lk) : rlinksC (l ++ m) = rlinksC l ++ rlinksC m := by simp [rlinksC]
theorem rlinksC_take (l m : List Lk) : (rlinksC (l ++ m)).take (l.length * 4) = rlinksC l := by
  rw [rlinksC_app, List.take_left' (rlinksC_len l)]
theorem rlinksC_last (l : List Lk) (x : Lk) : ((rlinksC (l ++ [x])).drop (l.length * 4)).take 4 = [.int .i64 x.f, .int .u64 x.at_, .int .i64 x.back, .int .i64 x.res] := by
  rw [rlinksC_app, List.drop_left' (rlinksC_len l)]; rfl
structure Rz where
  da : Option Addr
  dc : Nat
  fa : Option Addr
  fc : Nat
  q : Nat
  g : Nat
  c : Nat
  t : Nat
  rb : Nat
  tv : Value
  lv : Value
  kv : Value
def rspCells (s : Zp) (z : Rz) : Array Value := #[.slice z.da s.m.d.length z.dc, .slice z.fa s.m.f.length z.fc, .pointer (some ⟨z.q, 0, none⟩), .pointer (some ⟨z.t, 0, none⟩), .int .i64 s.fuel, .int .i64 s.f, .int .u64 s.at_, .int .i64 s.pc, z.kv, .int .i64 s.e.1, .int .i64 s.e.2]
structure RSpAt (w : World) (O R : Nat → Prop) (p : Nat) (s : Zp) (z : Rz) : Prop where
  obj : w.heap[p]? = some (.cells (rspCells s z) 135 (0, 0))
  mem : RMemAt w z.q z.g s.b.length z.c s.b
  tape : RefAt w z.rb z.t s.inp s.pos s.ds z.tv z.lv
  links : w.ownsRow 0 143 4 z.kv s.ls.length (rlinksC s.ls)
  ro : Stab R w (fun w' => ModIn w' s.m z.da z.dc z.fa)
  ok : s.Ok
  rb : z.rb ≤ w.heap.size
  op : O p
  og : O z.g
  ot : O z.t
  ol : ∀ k, z.lv.ownBlock = some k → O k
  okv : ∀ k, z.kv.ownBlock = some k → O k
  rq : R z.q
  rt : ∀ k, z.tv.ownBlock = some k → R k
  dis : ∀ k, O k → ¬ R k
  lt : ∀ k, O k ∨ R k → k < w.heap.size
section
variable {O R : Nat → Prop} {p : Nat} {s : Zp} {z : Rz}
theorem RSpAt.frx {S : Nat → Prop} (h : RSpAt w O R p s z) (r : Fr S w w') (hS : ∀ k, S k → k < w.heap.size → ¬ O k ∧ ¬ R k) : RSpAt w' O R p s z := by
  have hO : ∀ k, O k → ¬ S k := fun k ho hs => (hS k hs (h.lt k (.inl ho))).1 ho
  have hR : ∀ k, R k → ¬ S k := fun k ho hs => (hS k hs (h.lt k (.inr ho))).2 ho
  exact ⟨r.heap h.obj (hO _ h.op), h.mem.frx r (hR _ h.rq) (hO _ h.og), h.tape.frx r (hO _ h.ot) (fun k hk => hR _ (h.rt k hk)) (fun k hk => hO _ (h.ol k hk)),
    owns_fr h.links r (fun k hk => hO _ (h.okv k hk)), h.ro.fr r (fun k hk _ => hR k hk), h.ok, Nat.le_trans h.rb r.size, h.op, h.og, h.ot, h.ol, h.okv, h.rq, h.rt, h.dis, fun k hk => Nat.lt_of_lt_of_le (h.lt k hk) r.size⟩
theorem RSpAt.fr (h : RSpAt w O R p s z) (r : Fr no w w') : RSpAt w' O R p s z := h.frx r (fun _ h => h.elim)
theorem RSpAt.pg (h : RSpAt w O R p s z) : p ≠ z.g := by obtain ⟨cur, hg, -⟩ := h.mem.block; exact block_ne h.obj hg (by decide)
theorem RSpAt.pt (h : RSpAt w O R p s z) : p ≠ z.t := block_ne h.obj h.tape.obj (by decide)
theorem RSpAt.gt (h : RSpAt w O R p s z) : z.g ≠ z.t := by obtain ⟨cur, hg, -⟩ := h.mem.block; exact block_ne hg h.tape.obj (by decide)
theorem RSpAt.tabs (h : RSpAt w O R p s z) : ModIn w s.m z.da z.dc z.fa := h.ro.now
theorem RSpAt.fn (h : RSpAt w O R p s z) {k : Nat} (hk : k < s.m.f.length) : ∃ b o, z.fa = some ⟨b, o, none⟩ ∧ w.cell? ⟨b, o + k * 4, none⟩ = some (.int .i64 (fnOf s.m k).p) ∧ w.cell? ⟨b, o + k * 4 + 1, none⟩ = some (.int .i64 (fnOf s.m k).r) ∧ w.cell? ⟨b, o + k * 4 + 2, none⟩ = some (.int .i64 (fnOf s.m k).a) := by
  obtain ⟨b, o, ca, cc, h1, h2⟩ := h.tabs.fns k hk
  have h4 := h2.four
  rw [← fnOf_get hk] at h4
  exact ⟨b, o, h1, h4.1, h4.2.1, h4.2.2.1⟩
/-- fields are turned -/
theorem RSpAt.turn {s' : Zp} (h : RSpAt w O R p s z) (r : Fr (only [p]) w w') (ho : w'.heap[p]? = some (.cells (rspCells s' z) 135 (0, 0))) (hm : s'.m = s.m) (hb : s'.b = s.b) (hi : s'.inp = s.inp) (hp : s'.pos = s.pos) (hd : s'.ds = s.ds) (hl : s'.ls = s.ls) (hok : s'.Ok) : RSpAt w' O R p s' z := by
  have hpR : ¬ R p := h.dis p h.op
  refine ⟨ho, by rw [hb]; exact h.mem.frx r (by simp; exact fun e => hpR (e ▸ h.rq)) (by simp; exact fun e => h.pg e.symm), ?_, ?_, ?_, hok, Nat.le_trans h.rb r.size, h.op, h.og, h.ot, h.ol, h.okv, h.rq, h.rt, h.dis, fun k hk => Nat.lt_of_lt_of_le (h.lt k hk) r.size⟩
  · rw [hi, hp, hd]
    exact h.tape.frx r (by simp; exact fun e => h.pt e.symm) (fun k hk e => by simp at e; subst e; exact hpR (h.rt _ hk)) (fun k hk e => by simp at e; subst e; exact row_block_ne h.tape.out h.obj (by decide) hk)
  · rw [hl]
    exact owns_fr h.links r (fun k hk e => by simp at e; subst e; exact row_block_ne h.links h.obj (by decide) hk)
  · rw [hm]
    exact h.ro.fr r (fun k hk _ e => by simp at e; subst e; exact hpR hk)
/-- bytes are turned -/
theorem RSpAt.turnB {b' : List Nat} (h : RSpAt w O R p s z) (r : Fr (only [z.g]) w w') (hm : RMemAt w' z.q z.g s.b.length z.c b') (hok : ({ s with b := b' } : Zp).Ok) : RSpAt w' O R p { s with b := b' } z := by
  have hgR : ¬ R z.g := h.dis _ h.og
  have hl : b'.length = s.b.length := hm.len
  obtain ⟨cur, hg, -⟩ := h.mem.block
  refine ⟨?_, by show RMemAt w' z.q z.g b'.length z.c b'; rw [hl]; exact hm, ?_, ?_, ?_, hok, Nat.le_trans h.rb r.size, h.op, h.og, h.ot, h.ol, h.okv, h.rq, h.rt, h.dis, fun k hk => Nat.lt_of_lt_of_le (h.lt k hk) r.size⟩
  · have := r.heap h.obj (by simp [h.pg])
    rw [this]
    rfl
  · exact h.tape.frx r (by simp; exact fun e => h.gt e.symm) (fun k hk e => by simp at e; subst e; exact hgR (h.rt _ hk)) (fun k hk e => by simp at e; subst e; exact row_block_ne h.tape.out hg (by decide) hk)
  · exact owns_fr h.links r (fun k hk e => by simp at e; subst e; exact row_block_ne h.links hg (by decide) hk)
  · exact h.ro.fr r (fun k hk _ e => by simp at e; subst e; exact hgR hk)

end

variable {O R : Nat → Prop} {p : Nat} {s s' : Zp} {z : Rz}
/-- behind a call the space is so; what it has of its own is what it had, or new -/
def RSpTo (w w' : World) (O R : Nat → Prop) (p : Nat) (s : Zp) : Prop := ∃ O' z', RSpAt w' O' R p s z' ∧ Fr O w w' ∧ (∀ k, O k → O' k) ∧ ∀ k, O' k → O k ∨ w.heap.size ≤ k
theorem RSpAt.to (h : RSpAt w' O R p s z) (r : Fr O w w') : RSpTo w w' O R p s := ⟨O, z, h, r, fun _ h => h, fun _ h => .inl h⟩
theorem RSpTo.pre {w1 : World} (h : RSpTo w1 w' O R p s) (r : Fr no w w1) : RSpTo w w' O R p s := by
  obtain ⟨O', z', h1, h2, h3, h4⟩ := h
  exact ⟨O', z', h1, r.to.trans h2, h3, fun k hk => (h4 k hk).imp id (fun h => Nat.le_trans r.size h)⟩
theorem RSpAt.endS (h : RSpAt w O R p s z) (e : Dd) (hok : ({ s with e := e } : Zp).Ok) : RSpAt (w.setCells p 9 [.int .i64 e.1, .int .i64 e.2]) O R p { s with e := e } z ∧ Fr O w (w.setCells p 9 [.int .i64 e.1, .int .i64 e.2]) :=
  ⟨h.turn fr_setCells2 (heap_setCells2 h.obj) rfl rfl rfl rfl rfl rfl hok, fr_setCells2.mono (fun k hk _ => by simp at hk; subst hk; exact h.op)⟩
theorem RSpAt.goS (h : RSpAt w O R p s z) (n : Int) (hok : ({ s with pc := n } : Zp).Ok) : RSpAt (w.setCell ⟨p, 7, none⟩ (.int .i64 n)) O R p { s with pc := n } z ∧ Fr O w (w.setCell ⟨p, 7, none⟩ (.int .i64 n)) :=
  ⟨h.turn ((Fr.refl (only [p]) w).setCell ⟨p, 7, none⟩ _ (.inl (by simp))) (heap_setCell (o := 7) h.obj) rfl rfl rfl rfl rfl rfl hok, (Fr.refl O w).setCell ⟨p, 7, none⟩ _ (.inl h.op)⟩
theorem RSpAt.fuelS (h : RSpAt w O R p s z) (n : Int) (hok : ({ s with fuel := n } : Zp).Ok) : RSpAt (w.setCell ⟨p, 4, none⟩ (.int .i64 n)) O R p { s with fuel := n } z ∧ Fr O w (w.setCell ⟨p, 4, none⟩ (.int .i64 n)) :=
  ⟨h.turn ((Fr.refl (only [p]) w).setCell ⟨p, 4, none⟩ _ (.inl (by simp))) (heap_setCell (o := 4) h.obj) rfl rfl rfl rfl rfl rfl hok, (Fr.refl O w).setCell ⟨p, 4, none⟩ _ (.inl h.op)⟩
/-- its tape is turned -/
theorem RSpAt.tapeS {pos' : Nat} {ds' : List Dd} {lv' : Value} (h : RSpAt w O R p s z) (ht : RefAt w' z.rb z.t s.inp pos' ds' z.tv lv') (r : Fr (TapeS z.t z.lv) w w') (hn : NewRow w z.lv lv') : RSpTo w w' O R p { s with pos := pos', ds := ds' } := by
  have hO : ∀ k, TapeS z.t z.lv k → O k := fun k hk => by rcases hk with rfl | hk; exact h.ot; exact h.ol k hk
  have hR : ∀ k, R k → ¬ TapeS z.t z.lv k := fun k hk e => h.dis k (hO k e) hk
  refine ⟨fun k => O k ∨ (w.heap.size ≤ k ∧ k < w'.heap.size), { z with lv := lv' }, ⟨?_, ?_, ht, ?_, ?_, ?_, Nat.le_trans h.rb r.size, .inl h.op, .inl h.og, .inl h.ot, ?_, fun k hk => .inl (h.okv k hk), h.rq, h.rt, ?_, ?_⟩, r.mono (fun k hk _ => hO k hk), fun k hk => .inl hk, fun k hk => hk.imp id (fun h => h.1)⟩
  · exact r.heap h.obj (fun e => by rcases e with e | e; exact h.pt e; exact row_block_ne h.tape.out h.obj (by decide) e)
  · exact h.mem.frx r (fun e => hR _ h.rq e) (fun e => by
      obtain ⟨cur, hg, -⟩ := h.mem.block
      rcases e with e | e
      · exact h.gt e
      · exact row_block_ne h.tape.out hg (by decide) e)
  · exact owns_fr h.links r (fun k hk e => by
      rcases e with e | e
      · subst e; exact row_block_ne h.links h.tape.obj (by decide) hk
      · exact rows_ne h.tape.out h.links (by decide) k e hk)
  · exact h.ro.fr r (fun k hk _ => hR k hk)
  · exact h.ok.fix rfl rfl h.ok.bb rfl ht.le rfl rfl rfl h.ok.f0 h.ok.f1 h.ok.pl h.ok.em id
  · intro k hk
    rcases hn k hk with e | e
    · exact .inl (h.ol k e)
    · exact .inr ⟨e, (ht.out.lt k hk).2⟩
  · intro k hk hr
    rcases hk with hk | hk
    · exact h.dis k hk hr
    · have := h.lt k (.inr hr); omega
  · intro k hk
    rcases hk with (hk | hk) | hk
    · exact Nat.lt_of_lt_of_le (h.lt k (.inl hk)) r.size
    · exact hk.2
    · exact Nat.lt_of_lt_of_le (h.lt k (.inr hk)) r.size

/-- its links are turned -/
theorem RSpAt.linkS {l' : List Lk} {kv' : Value} (h : RSpAt w O R p s z) (r : Fr (fun k => k = p ∨ z.kv.ownBlock = some k) w w') (ho : w'.heap[p]? = some (.cells (rspCells { s with ls := l' } { z with kv := kv' }) 135 (0, 0)))
    (hk : w'.ownsRow 0 143 4 kv' l'.length (rlinksC l')) (hn : ∀ k, kv'.ownBlock = some k → z.kv.ownBlock = some k ∨ w.heap.size ≤ k) (hok : ({ s with ls := l' } : Zp).Ok) :
    RSpAt w' (fun k => O k ∨ (w.heap.size ≤ k ∧ k < w'.heap.size)) R p { s with ls := l' } { z with kv := kv' } ∧ Fr O w w' := by
  have hO : ∀ k, (k = p ∨ z.kv.ownBlock = some k) → O k := fun k hk => by rcases hk with rfl | hk; exact h.op; exact h.okv k hk
  have hR : ∀ k, R k → ¬ (k = p ∨ z.kv.ownBlock = some k) := fun k hk e => h.dis k (hO k e) hk
  refine ⟨⟨ho, ?_, ?_, hk, h.ro.fr r (fun k hk _ => hR k hk), hok, Nat.le_trans h.rb r.size, .inl h.op, .inl h.og, .inl h.ot, fun k hk => .inl (h.ol k hk), ?_, h.rq, h.rt, ?_, ?_⟩, r.mono (fun k hk _ => hO k hk)⟩
  · exact h.mem.frx r (fun e => hR _ h.rq e) (fun e => by
      obtain ⟨cur, hg, -⟩ := h.mem.block
      rcases e with e | e
      · exact h.pg e.symm
      · exact row_block_ne h.links hg (by decide) e)
  · exact h.tape.frx r (fun e => by
      rcases e with e | e
      · exact h.pt e.symm
      · exact row_block_ne h.links h.tape.obj (by decide) e) (fun k hk e => hR k (h.rt k hk) e) (fun k hk e => by
      rcases e with e | e
      · subst e; exact row_block_ne h.tape.out h.obj (by decide) hk
      · exact rows_ne h.tape.out h.links (by decide) k hk e)
  · intro k hk'
    rcases hn k hk' with e | e
    · exact .inl (h.okv k e)
    · exact .inr ⟨e, (hk.lt k hk').2⟩
  · intro k hk hr
    rcases hk with hk | hk
    · exact h.dis k hk hr
    · have := h.lt k (.inr hr); omega
  · intro k hk
    rcases hk with (hk | hk) | hk
    · exact Nat.lt_of_lt_of_le (h.lt k (.inl hk)) r.size
    · exact hk.2
    · exact Nat.lt_of_lt_of_le (h.lt k (.inr hk)) r.size
/-- function, frame and place are turned -/
theorem RSpAt.moveS {f : Nat} {t : Nat} {pc : Int} (h : RSpAt w O R p s z) (hok : ({ s with f := f, at_ := t, pc := pc } : Zp).Ok) :
    RSpAt (((w.setCell ⟨p, 5, none⟩ (.int .i64 f)).setCell ⟨p, 6, none⟩ (.int .u64 t)).setCell ⟨p, 7, none⟩ (.int .i64 pc)) O R p { s with f := f, at_ := t, pc := pc } z ∧
      Fr (only [p]) w (((w.setCell ⟨p, 5, none⟩ (.int .i64 f)).setCell ⟨p, 6, none⟩ (.int .u64 t)).setCell ⟨p, 7, none⟩ (.int .i64 pc)) := by
  have r := (((Fr.refl (only [p]) w).setCell ⟨p, 5, none⟩ (.int .i64 f) (.inl (by simp))).setCell ⟨p, 6, none⟩ (.int .u64 t) (.inl (by simp))).setCell ⟨p, 7, none⟩ (.int .i64 pc) (.inl (by simp))
  exact ⟨h.turn r (heap_setCell (o := 7) (heap_setCell (o := 6) (heap_setCell (o := 5) h.obj))) rfl rfl rfl rfl rfl rfl hok, r⟩

end Go.Proofs.YtihnkijeefkefaaGreat
