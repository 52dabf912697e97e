/- A region that draws its order, walked once in the order of its text: operations that yield one value in every world of a class S, and loud ones (calls, appends, stores) that are ordered among themselves. Phases: behind a phase's last operation a new class may be chosen. Over any program. -/
import Derived.Still
import Derived.Deep.Draws
namespace Go.Lex
variable {P : Program} {ops : Array Oper} {md : Region.Mode}

def NoExit : Exit → Act → World → Prop := fun _ _ _ => False

def Quiet (P : Program) (S : World → Prop) (o : Oper) (a : Act) (v : Value) : Prop := ∀ w, S w → (execOp a.eval o).run P w = .ok (.value v) w

/-- it yields v in every world of S, or is not wanted -/
def Yields (P : Program) (ops : Array Oper) (S : World → Prop) (o : Oper) (a : Act) (v : Value) : Prop :=
  (Region.wanted o (yielded ops a.tmps) = true ∧ Quiet P S o a v) ∨ (Region.wanted o (yielded ops a.tmps) = false ∧ v = undef)

def walk (P : Program) (ops : Array Oper) (L : List Nat) (S : World → Prop) (K : Act → World → Prop) : List Nat → Act → World → Prop
  | [], a, w => K a w
  | i :: l, a, w => ∃ o, ops[i]? = some o ∧
      if L.contains i = true then
        (Region.wanted o (yielded ops a.tmps) = true → o.wp P a w (fun a' w' => S w' ∧ walk P ops L S K l a' w') NoExit) ∧
        (Region.wanted o (yielded ops a.tmps) = false → walk P ops L S K l (a.put o.dst undef) w)
      else ∃ v, Yields P ops S o a v ∧ walk P ops L S K l (a.put o.dst v) w

/-! ### one operation beside another one that is apart -/
theorem upon_to {o : Oper} {a : Act} {x : Option Tmp} {u : Value} {K K' : Act → World → Prop} {r : Result Next} (h : o.upon P a K NoExit r)
    (hk : ∀ (b : Act) (v : Value) (w' : World), b.tmps = a.tmps → K (b.put o.dst v) w' → K' ((b.put x u).put o.dst v) w') : o.upon P (a.put x u) K' NoExit r := by
  cases r with
  | ok n w' =>
    cases n <;> simp only [Oper.upon] at h ⊢ <;> first | exact h.elim | skip
    case value v => exact hk a v w' rfl h
    case skip => exact hk a undef w' rfl h
    case defer d =>
      have := hk { a with defers := d :: a.defers } undef w' rfl h
      cases x <;> exact this
    case enter f args =>
      refine h.mono fun e w'' he => ?_
      cases e with
      | returned v => exact hk a v w'' rfl he
      | panicked c => exact he.elim
      | outgrown => exact he
    case row row args => exact h.mono fun v w'' he => hk a v w'' rfl he
  | halt x' w' => cases x' <;> simp only [Oper.upon] at h ⊢ <;> exact h.elim

theorem upon_from {o : Oper} {a : Act} {x : Option Tmp} {u : Value} {K K' : Act → World → Prop} {r : Result Next} (h : o.upon P (a.put x u) K NoExit r)
    (hk : ∀ (b : Act) (v : Value) (w' : World), b.tmps = a.tmps → K ((b.put x u).put o.dst v) w' → K' (b.put o.dst v) w') : o.upon P a K' NoExit r := by
  cases r with
  | ok n w' =>
    cases n <;> simp only [Oper.upon] at h ⊢ <;> first | exact h.elim | skip
    case value v => exact hk a v w' rfl h
    case skip => exact hk a undef w' rfl h
    case defer d =>
      refine hk { a with defers := d :: a.defers } undef w' rfl ?_
      cases x <;> exact h
    case enter f args =>
      refine h.mono fun e w'' he => ?_
      cases e with
      | returned v => exact hk a v w'' rfl he
      | panicked c => exact he.elim
      | outgrown => exact he
    case row row args => exact h.mono fun v w'' he => hk a v w'' rfl he
  | halt x' w' => cases x' <;> simp only [Oper.upon] at h ⊢ <;> exact h.elim

theorem upon_is {o : Oper} {a : Act} {K : Act → World → Prop} {r : Result Next} (h : o.upon P a K NoExit r) : ∃ (b : Act) (v : Value) (w' : World), b.tmps = a.tmps ∧ K (b.put o.dst v) w' := by
  cases r with
  | ok n w' =>
    cases n <;> simp only [Oper.upon] at h <;> first | exact h.elim | skip
    case value v => exact ⟨a, v, w', rfl, h⟩
    case skip => exact ⟨a, undef, w', rfl, h⟩
    case defer d => exact ⟨{ a with defers := d :: a.defers }, undef, w', rfl, h⟩
    case enter f args =>
      obtain ⟨e, w'', _, he, _⟩ := h []
      cases e with
      | returned v => exact ⟨a, v, w'', rfl, he⟩
      | panicked c => exact he.elim
      | outgrown => obtain ⟨_, _, hf⟩ := he; exact hf.elim
    case row row args =>
      obtain ⟨v, w'', he, _⟩ := h default []
      exact ⟨a, v, w'', rfl, he⟩
  | halt x' w' => cases x' <;> simp only [Oper.upon] at h <;> exact h.elim

theorem upon_q {o : Oper} {a : Act} {K K' : Act → World → Prop} {Q : Exit → Act → World → Prop} {r : Result Next} (h : o.upon P a K NoExit r)
    (hk : ∀ a' w', K a' w' → K' a' w') : o.upon P a K' Q r := by
  cases r with
  | ok n w' =>
    cases n <;> simp only [Oper.upon] at h ⊢ <;> first | exact h.elim | skip
    case value v => exact hk _ _ h
    case skip => exact hk _ _ h
    case defer d => exact hk _ _ h
    case enter f args =>
      refine h.mono fun e w'' he => ?_
      cases e with
      | returned v => exact hk _ _ he
      | panicked c => exact he.elim
      | outgrown => obtain ⟨_, _, hf⟩ := he; exact hf.elim
    case row row args => exact h.mono fun v w'' he => hk _ _ he
  | halt x' w' => cases x' <;> simp only [Oper.upon] at h ⊢ <;> exact h.elim

theorem yields_unique {S : World → Prop} {o : Oper} {a : Act} {w : World} {v v' : Value} (hS : S w) (h : Yields P ops S o a v) (h' : Yields P ops S o a v') : v = v' := by
  rcases h with ⟨h1, h2⟩ | ⟨h1, h2⟩ <;> rcases h' with ⟨h3, h4⟩ | ⟨h3, h4⟩
  · have := (h2 w hS).symm.trans (h4 w hS)
    simpa using this
  · rw [h1] at h3; cases h3
  · rw [h1] at h3; cases h3
  · rw [h2, h4]

section
variable {S : World → Prop} {L : List Nat} {K : Act → World → Prop} (hsel : Region.noSelect ops = true)
include hsel

theorem yields_same {j : Nat} {oj : Oper} (hj : ops[j]? = some oj) {a b : Act} {x : Option Tmp} {u v : Value} (hb : b.tmps = (a.put x u).tmps) (hx : ∀ d, x = some d → d ∉ oj.looksAt ops) :
    Yields P ops S oj b v ↔ Yields P ops S oj a v := by
  have e0 : b.eval = (a.put x u).eval := by
    funext t; cases t <;> simp [Act.eval, hb]
  have e1 := execOp_put oj (Region.noSelect_spec hsel j oj · · hj) a x u hx
  have e2 := wanted_put oj a x u hx
  unfold Yields Quiet
  rw [hb, e0, e1, e2]

/-- an operation that is not loud may be taken out -/
theorem quiet_out {j : Nat} {oj : Oper} (hj : ops[j]? = some oj) (hL : L.contains j = false) : ∀ (l : List Nat) (a : Act) (w : World), S w → j ∈ l → l.Pairwise (· < ·) →
    (∀ h ∈ l, h < j → ∀ oh, ops[h]? = some oh → oh.apart ops oj = true) → walk P ops L S K l a w →
    ∃ v, Yields P ops S oj a v ∧ walk P ops L S K (l.erase j) (a.put oj.dst v) w := by
  intro l
  induction l with
  | nil => intro a w _ hm; cases hm
  | cons i l ih =>
    intro a w hS hm hp hap hw
    obtain ⟨oi, hi, hw⟩ := hw
    by_cases hij : i = j
    · subst hij
      obtain rfl : oi = oj := by rw [hi] at hj; exact Option.some.inj hj
      rw [if_neg (by rw [hL]; simp)] at hw
      rw [List.erase_cons_head]
      exact hw
    · have hjl : j ∈ l := by rcases List.mem_cons.1 hm with e | e; exact (hij e.symm).elim; exact e
      have hlt : i < j := (List.pairwise_cons.1 hp).1 j hjl
      obtain ⟨h1, h2, h3⟩ := Oper.apart_spec (hap i (List.mem_cons_self ..) hlt oi hi)
      have hp' := (List.pairwise_cons.1 hp).2
      have hap' : ∀ h ∈ l, h < j → ∀ oh, ops[h]? = some oh → oh.apart ops oj = true := fun h hh => hap h (List.mem_cons_of_mem _ hh)
      have her : (i :: l).erase j = i :: l.erase j := by rw [List.erase_cons_tail]; simpa using hij
      rw [her]
      by_cases hLi : L.contains i = true
      · rw [if_pos hLi] at hw
        obtain ⟨hw1, hw2⟩ := hw
        cases hwa : Region.wanted oi (yielded ops a.tmps) with
        | true =>
          have h := hw1 hwa
          obtain ⟨b, u, w', hb, hS', hwk⟩ := upon_is h
          obtain ⟨vj, hy, _⟩ := ih _ _ hS' hjl hp' hap' hwk
          have hbt : (b.put oi.dst u).tmps = (a.put oi.dst u).tmps := by cases hd : oi.dst <;> simp [Act.put, hb]
          have hya := (yields_same hsel hj hbt h1).1 hy
          refine ⟨vj, hya, oi, hi, ?_⟩
          rw [if_pos hLi]
          refine ⟨fun _ => ?_, fun hf => ?_⟩
          · unfold Oper.wp at h ⊢
            rw [execOp_put oi (Region.noSelect_spec hsel i oi · · hi) a oj.dst vj h3]
            refine upon_to h fun b v w'' hb hk => ?_
            obtain ⟨hS'', hwk⟩ := hk
            obtain ⟨v', hy', hwk'⟩ := ih _ _ hS'' hjl hp' hap' hwk
            have hbt : (b.put oi.dst v).tmps = (a.put oi.dst v).tmps := by cases hd : oi.dst <;> simp [Act.put, hb]
            have e := yields_unique hS'' ((yields_same hsel hj hbt h1).1 hy') hya
            subst e
            refine ⟨hS'', ?_⟩
            rw [← Act.put_comm b v v' h2]
            exact hwk'
          · rw [wanted_put oi a oj.dst vj h3, hwa] at hf; cases hf
        | false =>
          obtain ⟨vj, hy, hwk⟩ := ih _ _ hS hjl hp' hap' (hw2 hwa)
          have hya := (yields_same hsel hj rfl h1).1 hy
          refine ⟨vj, hya, oi, hi, ?_⟩
          rw [if_pos hLi]
          refine ⟨fun hf => ?_, fun _ => ?_⟩
          · rw [wanted_put oi a oj.dst vj h3, hwa] at hf; cases hf
          · rw [← Act.put_comm a undef vj h2]; exact hwk
      · rw [if_neg hLi] at hw
        obtain ⟨vi, hyi, hwk⟩ := hw
        obtain ⟨vj, hy, hwk'⟩ := ih _ _ hS hjl hp' hap' hwk
        have hya := (yields_same hsel hj rfl h1).1 hy
        refine ⟨vj, hya, oi, hi, ?_⟩
        rw [if_neg hLi]
        refine ⟨vi, (yields_same hsel hi rfl h3).2 hyi, ?_⟩
        rw [← Act.put_comm a vi vj h2]; exact hwk'

/-- the first loud operation may be taken out -/
theorem loud_out {j : Nat} {oj : Oper} (hj : ops[j]? = some oj) (hLj : L.contains j = true) : ∀ (l : List Nat) (a : Act) (w : World), S w → j ∈ l → l.Pairwise (· < ·) →
    (∀ h ∈ l, h < j → L.contains h = false ∧ ∀ oh, ops[h]? = some oh → oh.apart ops oj = true) → walk P ops L S K l a w →
    (Region.wanted oj (yielded ops a.tmps) = true → oj.wp P a w (fun a' w' => S w' ∧ walk P ops L S K (l.erase j) a' w') NoExit) ∧
    (Region.wanted oj (yielded ops a.tmps) = false → walk P ops L S K (l.erase j) (a.put oj.dst undef) w) := by
  intro l
  induction l with
  | nil => intro a w _ hm; cases hm
  | cons i l ih =>
    intro a w hS hm hp hap hw
    obtain ⟨oi, hi, hw⟩ := hw
    by_cases hij : i = j
    · subst hij
      obtain rfl : oi = oj := by rw [hi] at hj; exact Option.some.inj hj
      rw [if_pos hLj] at hw
      rw [List.erase_cons_head]
      exact hw
    · have hjl : j ∈ l := by rcases List.mem_cons.1 hm with e | e; exact (hij e.symm).elim; exact e
      have hlt : i < j := (List.pairwise_cons.1 hp).1 j hjl
      obtain ⟨hLi, hap0⟩ := hap i (List.mem_cons_self ..) hlt
      obtain ⟨h1, h2, h3⟩ := Oper.apart_spec (hap0 oi hi)
      have hp' := (List.pairwise_cons.1 hp).2
      have hap' : ∀ h ∈ l, h < j → L.contains h = false ∧ ∀ oh, ops[h]? = some oh → oh.apart ops oj = true := fun h hh => hap h (List.mem_cons_of_mem _ hh)
      have her : (i :: l).erase j = i :: l.erase j := by rw [List.erase_cons_tail]; simpa using hij
      rw [her]
      have hLi' : ¬ L.contains i = true := by rw [hLi]; simp
      rw [if_neg hLi'] at hw
      obtain ⟨vi, hyi, hwk⟩ := hw
      obtain ⟨q1, q2⟩ := ih _ _ hS hjl hp' hap' hwk
      rw [wanted_put oj a oi.dst vi h1] at q1 q2
      refine ⟨fun hwa => ?_, fun hwa => ?_⟩
      · have h := q1 hwa
        unfold Oper.wp at h ⊢
        rw [execOp_put oj (Region.noSelect_spec hsel j oj · · hj) a oi.dst vi h1] at h
        refine upon_from h fun b v w' hb hk => ?_
        obtain ⟨hS', hwk⟩ := hk
        refine ⟨hS', oi, hi, ?_⟩
        rw [if_neg hLi']
        have hbt : (b.put oj.dst v).tmps = (a.put oj.dst v).tmps := by cases hd : oj.dst <;> simp [Act.put, hb]
        refine ⟨vi, (yields_same hsel hi hbt h3).2 hyi, ?_⟩
        rw [← Act.put_comm b vi v h2]; exact hwk
      · refine ⟨oi, hi, ?_⟩
        rw [if_neg hLi']
        refine ⟨vi, (yields_same hsel hi rfl h3).2 hyi, ?_⟩
        rw [← Act.put_comm a vi undef h2]
        exact q2 hwa
end


/-! ### phases -/
def phases (P : Program) (ops : Array Oper) (L : List Nat) (Q : Exit → Act → World → Prop) : List (List Nat) → Act → World → Prop
  | [], a, w => Q .normal a w
  | l :: ls, a, w => ∃ S : World → Prop, S w ∧ walk P ops L S (phases P ops L Q ls) l a w

/-- j waits for h, over however many edges -/
inductive Anc (md : Region.Mode) (ops : Array Oper) : Nat → Nat → Prop
  | edge {j : Nat} {o : Oper} {e : Edge} (hj : ops[j]? = some o) (he : e ∈ o.after) (hb : Region.binds md e = true) : Anc md ops j e.on
  | more {j h : Nat} {o : Oper} {e : Edge} (hj : ops[j]? = some o) (he : e ∈ o.after) (hb : Region.binds md e = true) (r : Anc md ops e.on h) : Anc md ops j h

/-- what has come up has come up behind all that it waits for -/
def Closed (md : Region.Mode) (ops : Array Oper) (listed : Array Bool) : Prop :=
  ∀ j o, ops[j]? = some o → listed.getD j false = true → ∀ e ∈ o.after, Region.binds md e = true → listed.getD e.on false = true

theorem Closed.anc {listed : Array Bool} (hc : Closed md ops listed) {j h : Nat} (ha : Anc md ops j h) : listed.getD j false = true → listed.getD h false = true := by
  induction ha with
  | edge hj he hb => exact fun hl => hc _ _ hj hl _ he hb
  | more hj he hb _ ih => exact fun hl => ih (hc _ _ hj hl _ he hb)

theorem anc_listed {listed : Array Bool} (hc : Closed md ops listed) {j h : Nat} (ha : Anc md ops j h) (hr : j ∈ Region.ready md ops listed) : listed.getD h false = true := by
  obtain ⟨_, o, ho, hall⟩ := mem_ready.1 hr
  cases ha with
  | edge hj he hb => rw [ho] at hj; cases hj; exact hall _ he hb
  | more hj he hb r => rw [ho] at hj; cases hj; exact hc.anc r (hall _ he hb)

/-- what must hold of the region's text -/
structure Fits (md : Region.Mode) (ops : Array Oper) (L : List Nat) (ls : List (List Nat)) : Prop where
  sel : Region.noSelect ops = true
  back : ∀ j o, ops[j]? = some o → ∀ e ∈ o.after, Region.binds md e = true → e.on < j
  sorted : ∀ l ∈ ls, l.Pairwise (· < ·)
  apart : ∀ l ∈ ls, ∀ h ∈ l, ∀ j ∈ l, h < j → ∀ oh oj, ops[h]? = some oh → ops[j]? = some oj → (∃ e ∈ oj.after, Region.binds md e = true ∧ e.on = h) ∨ oh.apart ops oj = true
  loud : ∀ l ∈ ls, ∀ h ∈ l, ∀ j ∈ l, h < j → L.contains h = true → L.contains j = true → Anc md ops j h
  parts : ls.Pairwise fun l l' => ∀ h ∈ l, ∀ j ∈ l', Anc md ops j h

theorem Closed.set {listed : Array Bool} (hc : Closed md ops listed) {i : Nat} (hr : i ∈ Region.ready md ops listed) : Closed md ops (listed.setIfInBounds i true) := by
  intro j o hj hl e he hb
  by_cases hij : i = j
  · subst hij
    obtain ⟨_, o', ho, hall⟩ := mem_ready.1 hr
    rw [ho] at hj; cases hj
    exact getD_set_true (hall e he hb)
  · rw [getD_set_ne false hij] at hl
    exact getD_set_true (hc j o hj hl e he hb)

theorem anyOrder {L : List Nat} {Q : Exit → Act → World → Prop} : ∀ (n : Nat) (ls : List (List Nat)) (l : List Nat) (fuel : Nat) (listed : Array Bool) (a : Act) (w : World) (S : World → Prop),
    (l :: ls).length + fuel ≤ n → listed.size = ops.size → Fits md ops L (l :: ls) → Closed md ops listed →
    (∀ i, i < ops.size → (listed.getD i true = false ↔ i ∈ l ∨ ∃ l' ∈ ls, i ∈ l')) → (∀ i, (i ∈ l ∨ ∃ l' ∈ ls, i ∈ l') → i < ops.size) → l.length + ls.flatten.length ≤ fuel →
    S w → walk P ops L S (phases P ops L Q ls) l a w → wpAny P md ops Q fuel listed a w := by
  intro n
  induction n with
  | zero => intro ls l fuel listed a w S hn; simp at hn
  | succ n ih =>
    intro ls l fuel listed a w S hn hsz hF hc hun hin hfu hS hw
    cases l with
    | nil =>
      cases ls with
      | nil =>
        have hno : Region.ready md ops listed = [] := by
          rw [List.eq_nil_iff_forall_not_mem]
          intro i hi
          obtain ⟨h0, o, ho, _⟩ := mem_ready.1 hi
          have := (hun i (Array.getElem?_eq_some_iff.1 ho).1).1 h0
          simp at this
        have hq : Q .normal a w := hw
        cases fuel with
        | zero => exact ⟨hno, hq⟩
        | succ fuel => exact ⟨fun _ => hq, fun i hi => by rw [hno] at hi; cases hi⟩
      | cons l' ls =>
        obtain ⟨S', hS', hw'⟩ := hw
        refine ih ls l' fuel listed a w S' (by simp at hn ⊢; omega) hsz ?_ hc ?_ ?_ (by simpa using hfu) hS' hw'
        · exact ⟨hF.sel, hF.back, fun l hl => hF.sorted l (List.mem_cons_of_mem _ hl), fun l hl => hF.apart l (List.mem_cons_of_mem _ hl),
            fun l hl => hF.loud l (List.mem_cons_of_mem _ hl), (List.pairwise_cons.1 hF.parts).2⟩
        · intro i hi; rw [hun i hi]; simp
        · intro i hi; exact hin i (by simpa using hi)
    | cons i0 l0 =>
      generalize hl0 : i0 :: l0 = l at *
      have hl : l ≠ [] := by rw [← hl0]; simp
      cases fuel with
      | zero => rw [← hl0] at hfu; simp at hfu
      | succ fuel =>
        have hmem : ∀ i, i ∈ Region.ready md ops listed → i ∈ l := by
          intro i hi
          obtain ⟨h0, o, ho, _⟩ := mem_ready.1 hi
          rcases (hun i (Array.getElem?_eq_some_iff.1 ho).1).1 h0 with h | ⟨l', hl', h⟩
          · exact h
          · have ha := (List.pairwise_cons.1 hF.parts).1 l' hl' i0 (by rw [← hl0]; exact List.mem_cons_self ..) i h
            have h1 := anc_listed hc ha hi
            have hi0 : i0 ∈ l := by rw [← hl0]; exact List.mem_cons_self ..
            have hlt := hin i0 (.inl hi0)
            have h2 := (hun i0 hlt).2 (.inl hi0)
            rw [Array.getD_eq_getD_getElem?, Array.getElem?_eq_getElem (by omega)] at h1 h2
            simp at h1 h2
            rw [h1] at h2; cases h2
        have hsorted : l.Pairwise (· < ·) := hF.sorted l (List.mem_cons_self ..)
        have hstep : ∀ i, i ∈ Region.ready md ops listed → ∀ a' w' , S w' → walk P ops L S (phases P ops L Q ls) (l.erase i) a' w' → wpAny P md ops Q fuel (listed.setIfInBounds i true) a' w' := by
          intro i hi a' w' hS' hw'
          have hil := hmem i hi
          have hlen : (l.erase i).length = l.length - 1 := List.length_erase_of_mem hil
          have hpos : 0 < l.length := by rw [← hl0]; simp
          have hnd : l.Nodup := hsorted.imp (fun h => Nat.ne_of_lt h)
          refine ih ls (l.erase i) fuel (listed.setIfInBounds i true) a' w' S (by simp at hn ⊢; omega) (by simpa using hsz) ?_ (hc.set hi) ?_ ?_ (by omega) hS' hw'
          · refine ⟨hF.sel, hF.back, ?_, ?_, ?_, ?_⟩
            · intro l' hl'
              rcases List.mem_cons.1 hl' with rfl | hl'
              · exact hsorted.sublist List.erase_sublist
              · exact hF.sorted l' (List.mem_cons_of_mem _ hl')
            · intro l' hl' h hh j hj
              rcases List.mem_cons.1 hl' with rfl | hl'
              · exact hF.apart l (List.mem_cons_self ..) h (List.mem_of_mem_erase hh) j (List.mem_of_mem_erase hj)
              · exact hF.apart l' (List.mem_cons_of_mem _ hl') h hh j hj
            · intro l' hl' h hh j hj
              rcases List.mem_cons.1 hl' with rfl | hl'
              · exact hF.loud l (List.mem_cons_self ..) h (List.mem_of_mem_erase hh) j (List.mem_of_mem_erase hj)
              · exact hF.loud l' (List.mem_cons_of_mem _ hl') h hh j hj
            · obtain ⟨q1, q2⟩ := List.pairwise_cons.1 hF.parts
              exact List.pairwise_cons.2 ⟨fun l' hl' h hh => q1 l' hl' h (List.mem_of_mem_erase hh), q2⟩
          · intro k hk
            by_cases hik : i = k
            · subst hik
              rw [Array.getD_eq_getD_getElem?, Array.getElem?_setIfInBounds_self_of_lt (by omega)]
              simp only [Option.getD_some, Bool.true_eq_false, false_iff, not_or, not_exists, not_and]
              refine ⟨fun hm => ?_, fun l' hl' hm => ?_⟩
              · exact (hnd.mem_erase_iff.1 hm).1 rfl
              · have ha := (List.pairwise_cons.1 hF.parts).1 l' hl' i hil i hm
                have h1 := anc_listed hc ha hi
                have h2 := (mem_ready.1 hi).1
                rw [Array.getD_eq_getD_getElem?, Array.getElem?_eq_getElem (by omega)] at h1 h2
                simp at h1 h2
                rw [h1] at h2; cases h2
            · rw [getD_set_ne true hik, hun k hk, hnd.mem_erase_iff]
              constructor
              · rintro (h | h)
                · exact .inl ⟨Ne.symm hik, h⟩
                · exact .inr h
              · rintro (h | h)
                · exact .inl h.2
                · exact .inr h
          · intro k hk
            refine hin k ?_
            rcases hk with h | h
            · exact .inl (List.mem_of_mem_erase h)
            · exact .inr h
        refine ⟨fun hr => ?_, fun i hi => ?_⟩
        · exfalso
          have hi0 : i0 ∈ l := by rw [← hl0]; exact List.mem_cons_self ..
          have hlt := hin i0 (.inl hi0)
          have : i0 ∈ Region.ready md ops listed := by
            refine mem_ready.2 ⟨(hun i0 hlt).2 (.inl hi0), ops[i0], Array.getElem?_eq_getElem hlt, fun e he hb => ?_⟩
            have hbk := hF.back i0 _ (Array.getElem?_eq_getElem hlt) e he hb
            cases hl1 : listed.getD e.on true with
            | true =>
              rw [Array.getD_eq_getD_getElem?, Array.getElem?_eq_getElem (by omega)] at hl1 ⊢
              simpa using hl1
            | false =>
              exfalso
              rcases (hun e.on (by omega)).1 hl1 with h | ⟨l', hl', h⟩
              · rw [← hl0] at h hsorted
                rcases List.mem_cons.1 h with h | h
                · omega
                · have := (List.pairwise_cons.1 hsorted).1 _ h; omega
              · have ha := (List.pairwise_cons.1 hF.parts).1 l' hl' i0 hi0 e.on h
                have : ∀ j h, Anc md ops j h → h < j := by
                  intro j h ha
                  induction ha with
                  | edge hj he hb => exact hF.back _ _ hj _ he hb
                  | more hj he hb _ ih => have := hF.back _ _ hj _ he hb; omega
                have := this _ _ ha
                omega
          rw [hr] at this; cases this
        · have hil := hmem i hi
          obtain ⟨h0, o, ho, hall⟩ := mem_ready.1 hi
          have hap : ∀ h ∈ l, h < i → ∀ oh, ops[h]? = some oh → oh.apart ops o = true := by
            intro h hh hlt oh hoh
            rcases hF.apart l (List.mem_cons_self ..) h hh i hil hlt oh o hoh ho with ⟨e, he, hb, hon⟩ | h1
            · exfalso
              have h1 := hall e he hb
              have h2 := (hun h (hin h (.inl hh))).2 (.inl hh)
              rw [hon] at h1
              rw [Array.getD_eq_getD_getElem?, Array.getElem?_eq_getElem (by have := hin h (.inl hh); omega)] at h1 h2
              simp at h1 h2
              rw [h1] at h2; cases h2
            · exact h1
          unfold wpOp
          rw [ho]
          dsimp only
          by_cases hLi : L.contains i = true
          · have hlo : ∀ h ∈ l, h < i → L.contains h = false ∧ ∀ oh, ops[h]? = some oh → oh.apart ops o = true := by
              intro h hh hlt
              refine ⟨?_, hap h hh hlt⟩
              cases hLh : L.contains h with
              | false => rfl
              | true =>
                exfalso
                have h1 := anc_listed hc (hF.loud l (List.mem_cons_self ..) h hh i hil hlt hLh hLi) hi
                have h2 := (hun h (hin h (.inl hh))).2 (.inl hh)
                rw [Array.getD_eq_getD_getElem?, Array.getElem?_eq_getElem (by have := hin h (.inl hh); omega)] at h1 h2
                simp at h1 h2
                rw [h1] at h2; cases h2
            obtain ⟨q1, q2⟩ := loud_out hF.sel ho hLi l a w hS hil hsorted hlo hw
            cases hwa : Region.wanted o (yielded ops a.tmps) with
            | true =>
              rw [if_pos rfl]
              exact .inl (upon_q (q1 hwa) fun a' w' ⟨hS', hw'⟩ => hstep i hi a' w' hS' hw')
            | false =>
              rw [if_neg (by simp)]
              exact hstep i hi _ _ hS (q2 hwa)
          · have hLi' : L.contains i = false := by simpa using hLi
            obtain ⟨v, hy, hw'⟩ := quiet_out hF.sel ho hLi' l a w hS hil hsorted hap hw
            rcases hy with ⟨hwa, hq⟩ | ⟨hwa, rfl⟩
            · rw [if_pos hwa]
              refine .inl ?_
              unfold Oper.wp
              rw [hq w hS]
              exact hstep i hi _ _ hS hw'
            · rw [if_neg (by rw [hwa]; simp)]
              exact hstep i hi _ _ hS hw'


/-! ### the look at the region's text, by computation -/
def ancMask (acc : List Nat) (o : Oper) : Nat :=
  o.after.toList.foldl (fun s e => if Region.binds .any e then s ||| 2 ^ e.on ||| acc.getD e.on 0 else s) 0
def masks : List Oper → List Nat → List Nat
  | [], acc => acc
  | o :: l, acc => masks l (acc ++ [ancMask acc o])

theorem foldl_mask (acc : List Nat) (h : Nat) : ∀ (l : List Edge) (s : Nat),
    (l.foldl (fun s e => if Region.binds .any e then s ||| 2 ^ e.on ||| acc.getD e.on 0 else s) s).testBit h = true →
    s.testBit h = true ∨ ∃ e ∈ l, Region.binds .any e = true ∧ (e.on = h ∨ (acc.getD e.on 0).testBit h = true)
  | [], s, hh => .inl hh
  | e :: l, s, hh => by
    simp only [List.foldl_cons] at hh
    rcases foldl_mask acc h l _ hh with h1 | ⟨e', he', h1⟩
    · by_cases hb : Region.binds .any e = true
      · rw [if_pos hb, Nat.testBit_or, Nat.testBit_or, Nat.testBit_two_pow] at h1
        simp only [Bool.or_eq_true, decide_eq_true_eq] at h1
        rcases h1 with (h1 | h1) | h1
        · exact .inl h1
        · exact .inr ⟨e, List.mem_cons_self .., hb, .inl h1⟩
        · exact .inr ⟨e, List.mem_cons_self .., hb, .inr h1⟩
      · rw [if_neg hb] at h1; exact .inl h1
    · exact .inr ⟨e', List.mem_cons_of_mem _ he', h1⟩

theorem masks_anc : ∀ (l pre : List Oper) (acc : List Nat), ops.toList = pre ++ l → acc.length = pre.length →
    (∀ j m, acc[j]? = some m → ∀ h, m.testBit h = true → Anc .any ops j h) → ∀ j m, (masks l acc)[j]? = some m → ∀ h, m.testBit h = true → Anc .any ops j h
  | [], pre, acc, _, _, ha => ha
  | o :: l, pre, acc, hp, hl, ha => by
    refine masks_anc l (pre ++ [o]) (acc ++ [ancMask acc o]) (by simp [hp]) (by simp [hl]) ?_
    intro j m hj h hm
    rcases Nat.lt_or_ge j acc.length with hlt | hge
    · rw [List.getElem?_append_left hlt] at hj
      exact ha j m hj h hm
    · rw [List.getElem?_append_right hge] at hj
      have hj0 : j = pre.length := by
        rcases Nat.eq_or_lt_of_le hge with e | e
        · omega
        · rw [List.getElem?_eq_none (by simp; omega)] at hj; cases hj
      subst hj0
      rw [hl, Nat.sub_self] at hj
      simp only [List.getElem?_cons_zero, Option.some.injEq] at hj
      subst hj
      have ho : ops[pre.length]? = some o := by
        rw [← Array.getElem?_toList, hp, List.getElem?_append_right (Nat.le_refl _)]; simp
      rcases foldl_mask acc h _ _ hm with h0 | ⟨e, he, hb, h1⟩
      · simp at h0
      · have he' : e ∈ o.after := by simpa using he
        rcases h1 with rfl | h1
        · exact .edge ho he' hb
        · refine .more ho he' hb (ha e.on (acc.getD e.on 0) ?_ h h1)
          rw [List.getD_eq_getElem?_getD] at h1 ⊢
          cases hx : acc[e.on]? with
          | none => rw [hx] at h1; simp at h1
          | some m => rfl

def waits (ops : Array Oper) (oh oj : Oper) (h : Nat) : Bool := oj.after.any (fun e => Region.binds .any e && e.on == h) || oh.apart ops oj
def pairB (ops : Array Oper) (ms : List Nat) (L : List Nat) (h j : Nat) : Bool :=
  (match ops[h]?, ops[j]? with | some oh, some oj => waits ops oh oj h | _, _ => true) && (!(L.contains h && L.contains j) || (ms.getD j 0).testBit h)
def phaseB (ops : Array Oper) (ms L : List Nat) (l : List Nat) : Bool := l.all fun h => l.all fun j => !decide (h < j) || pairB ops ms L h j
def partsB (ms : List Nat) : List (List Nat) → Bool
  | [] => true
  | l :: ls => (ls.all fun l' => l.all fun h => l'.all fun j => (ms.getD j 0).testBit h) && partsB ms ls
def backB (ops : Array Oper) : Bool := ops.toList.zipIdx.all fun x => x.1.after.all fun e => !Region.binds .any e || decide (e.on < x.2)
def cuts : Nat → List Nat → List (List Nat)
  | _, [] => []
  | k, n :: ns => List.range' k n :: cuts (k + n) ns
def fitsB (ops : Array Oper) (L ns : List Nat) : Bool :=
  let ms := masks ops.toList []
  Region.noSelect ops && backB ops && (cuts 0 ns).all (phaseB ops ms L) && partsB ms (cuts 0 ns) && ns.sum == ops.size

theorem getD_bit {ms : List Nat} {j h : Nat} (hb : (ms.getD j 0).testBit h = true) : ∃ m, ms[j]? = some m ∧ m.testBit h = true := by
  rw [List.getD_eq_getElem?_getD] at hb
  cases hx : ms[j]? with
  | none => rw [hx] at hb; simp at hb
  | some m => rw [hx] at hb; exact ⟨m, rfl, hb⟩

theorem cuts_sorted : ∀ (ns : List Nat) (k : Nat), ∀ l ∈ cuts k ns, l.Pairwise (· < ·)
  | [], _, _, h => by cases h
  | n :: ns, k, l, h => by
    rcases List.mem_cons.1 h with rfl | h
    · exact List.pairwise_lt_range'
    · exact cuts_sorted ns (k + n) l h

theorem cuts_mem : ∀ (ns : List Nat) (k i : Nat), (∃ l ∈ cuts k ns, i ∈ l) ↔ k ≤ i ∧ i < k + ns.sum
  | [], k, i => by simp [cuts]
  | n :: ns, k, i => by
    have ih := cuts_mem ns (k + n) i
    simp only [cuts, List.mem_cons, exists_eq_or_imp, ih, List.sum_cons, List.mem_range'_1]
    omega

theorem cuts_len : ∀ (ns : List Nat) (k : Nat), (cuts k ns).flatten.length = ns.sum
  | [], _ => rfl
  | n :: ns, k => by simp [cuts, cuts_len ns (k + n)]

theorem fits_of {L ns : List Nat} (h : fitsB ops L ns = true) : Fits .any ops L (cuts 0 ns) ∧ ns.sum = ops.size := by
  simp only [fitsB, Bool.and_eq_true, beq_iff_eq, List.all_eq_true] at h
  obtain ⟨⟨⟨⟨h1, h2⟩, h3⟩, h4⟩, h5⟩ := h
  have hm : ∀ j h, ((masks ops.toList []).getD j 0).testBit h = true → Anc .any ops j h := by
    intro j h hb
    obtain ⟨m, hm, hb⟩ := getD_bit hb
    exact masks_anc ops.toList [] [] (by simp) rfl (fun j m hj => by simp at hj) j m hm h hb
  generalize masks ops.toList [] = ms at *
  refine ⟨⟨h1, ?_, cuts_sorted ns 0, ?_, ?_, ?_⟩, h5⟩
  · intro j o hj e he hb
    simp only [backB, List.all_eq_true] at h2
    have hz : (o, j) ∈ ops.toList.zipIdx := by
      rw [List.mem_zipIdx_iff_getElem?]; simpa using hj
    have := h2 _ hz
    rw [Array.all_eq_true_iff_forall_mem] at this
    have := this e he
    simpa [hb] using this
  · intro l hl h hh j hj hlt oh oj hoh hoj
    have := h3 l hl
    simp only [phaseB, List.all_eq_true] at this
    have := this h hh j hj
    simp only [hlt, decide_true, Bool.not_true, Bool.false_or, pairB, hoh, hoj, waits, Bool.and_eq_true, Bool.or_eq_true] at this
    rcases this.1 with h6 | h6
    · obtain ⟨e, he, hb⟩ := Array.any_eq_true'.1 h6
      simp only [Bool.and_eq_true, beq_iff_eq] at hb
      exact .inl ⟨e, he, hb.1, hb.2⟩
    · exact .inr h6
  · intro l hl h hh j hj hlt hLh hLj
    have := h3 l hl
    simp only [phaseB, List.all_eq_true] at this
    have := this h hh j hj
    simp only [hlt, decide_true, Bool.not_true, Bool.false_or, pairB, Bool.and_eq_true, hLh, hLj, Bool.and_self] at this
    exact hm j h this.2
  · have : ∀ ls : List (List Nat), partsB ms ls = true → ls.Pairwise fun l l' => ∀ h ∈ l, ∀ j ∈ l', Anc .any ops j h := by
      intro ls
      induction ls with
      | nil => intro _; exact List.Pairwise.nil
      | cons l ls ih =>
        intro hp
        simp only [partsB, Bool.and_eq_true, List.all_eq_true] at hp
        exact List.pairwise_cons.2 ⟨fun l' hl' h hh j hj => hm j h (hp.1 l' hl' h hh j hj), ih hp.2⟩
    exact this _ h4

/-! ### the walk over the operations themselves -/
def walkO (P : Program) (ops : Array Oper) (L : List Nat) (S : World → Prop) (K : Act → World → Prop) : Nat → Nat → List Oper → Act → World → Prop
  | _, 0, _, a, w => K a w
  | _, _ + 1, [], _, _ => False
  | k, n + 1, o :: l, a, w =>
      if L.contains k = true then
        (Region.wanted o (yielded ops a.tmps) = true → o.wp P a w (fun a' w' => S w' ∧ walkO P ops L S K (k + 1) n l a' w') NoExit) ∧
        (Region.wanted o (yielded ops a.tmps) = false → walkO P ops L S K (k + 1) n l (a.put o.dst undef) w)
      else ∃ v, Yields P ops S o a v ∧ walkO P ops L S K (k + 1) n l (a.put o.dst v) w

def phasesO (P : Program) (ops : Array Oper) (L : List Nat) (Q : Exit → Act → World → Prop) : Nat → List Nat → List Oper → Act → World → Prop
  | _, [], _, a, w => Q .normal a w
  | k, n :: ns, l, a, w => ∃ S : World → Prop, S w ∧ walkO P ops L S (phasesO P ops L Q (k + n) ns (l.drop n)) k n l a w

theorem walk_of {S : World → Prop} {L : List Nat} {K K' : Act → World → Prop} (hK : ∀ a w, K a w → K' a w) : ∀ (n k : Nat) (l : List Oper) (a : Act) (w : World),
    (∀ j, j < n → l[j]? = ops[k + j]?) → walkO P ops L S K k n l a w → walk P ops L S K' (List.range' k n) a w
  | 0, k, l, a, w, _, h => hK _ _ h
  | n + 1, k, [], a, w, _, h => h.elim
  | n + 1, k, o :: l, a, w, hl, h => by
    have h0 : ops[k]? = some o := by have := hl 0 (by omega); simpa using this.symm
    have ih : ∀ a w, walkO P ops L S K (k + 1) n l a w → walk P ops L S K' (List.range' (k + 1) n) a w := fun a w => walk_of hK n (k + 1) l a w (fun j hj => by have := hl (j + 1) (by omega); simpa [Nat.add_assoc, Nat.add_comm 1 j] using this)
    rw [List.range'_succ]
    refine ⟨o, h0, ?_⟩
    unfold walkO at h
    by_cases hLk : L.contains k = true
    · rw [if_pos hLk] at h ⊢
      refine ⟨fun hw => upon_q (h.1 hw) fun a' w' ⟨h1, h2⟩ => ⟨h1, ih a' w' h2⟩, fun hw => ih _ _ (h.2 hw)⟩
    · rw [if_neg hLk] at h ⊢
      obtain ⟨v, hy, h⟩ := h
      exact ⟨v, hy, ih _ _ h⟩

theorem phases_of {L : List Nat} {Q : Exit → Act → World → Prop} : ∀ (ns : List Nat) (k : Nat) (l : List Oper) (a : Act) (w : World),
    (∀ j, j < ns.sum → l[j]? = ops[k + j]?) → phasesO P ops L Q k ns l a w → phases P ops L Q (cuts k ns) a w
  | [], _, _, _, _, _, h => h
  | n :: ns, k, l, a, w, hl, h => by
    obtain ⟨S, hS, h⟩ := h
    refine ⟨S, hS, walk_of (fun a w => phases_of ns (k + n) (l.drop n) a w fun j hj => ?_) n k l a w (fun j hj => hl j (by simp; omega)) h⟩
    rw [List.getElem?_drop, hl (n + j) (by simp; omega), Nat.add_assoc]

/-- **THE REGION.** L: the loud operations' numbers; ns: how many operations each phase has. -/
theorem region {id : Nat} {Q : Exit → Act → World → Prop} {a : Act} {w : World} {l : List Oper} (L ns : List Nat) (hm : P.follows .mixedOrders = true) (hB : fitsB l.toArray L ns = true)
    (h : phasesO P l.toArray L Q 0 ns l a w.drew) : (Code.region id l.toArray true).wp P Q a w := by
  obtain ⟨hF, hsum⟩ := fits_of hB
  refine wp_region_any hm ?_
  have h' := phases_of (ops := l.toArray) ns 0 l a w.drew (fun j _ => by simp) h
  have hall : ∀ i, i < l.toArray.size → ((Array.replicate l.toArray.size false).getD i true = false ↔ ∃ l' ∈ cuts 0 ns, i ∈ l') := by
    intro i hi
    rw [cuts_mem, hsum]
    simp only [List.size_toArray] at hi
    simp [Array.getD_eq_getD_getElem?, Array.getElem?_replicate, hi]
  refine anyOrder (L := L) (2 + (cuts 0 ns).length + l.toArray.size) (cuts 0 ns) [] l.toArray.size (Array.replicate l.toArray.size false) a w.drew (fun _ => True) (by simp; omega) (by simp) ?_ ?_ ?_ ?_ ?_ trivial h'
  · refine ⟨hF.sel, hF.back, ?_, ?_, ?_, ?_⟩
    · intro l' hl'; rcases List.mem_cons.1 hl' with rfl | hl'
      · exact List.Pairwise.nil
      · exact hF.sorted l' hl'
    · intro l' hl'; rcases List.mem_cons.1 hl' with rfl | hl'
      · intro h hh; cases hh
      · exact hF.apart l' hl'
    · intro l' hl'; rcases List.mem_cons.1 hl' with rfl | hl'
      · intro h hh; cases hh
      · exact hF.loud l' hl'
    · exact List.pairwise_cons.2 ⟨fun l' _ h hh => (by cases hh), hF.parts⟩
  · intro j o hj hl
    exfalso
    rw [Array.getD_eq_getD_getElem?, Array.getElem?_replicate] at hl
    split at hl <;> simp at hl
  · intro i hi; rw [hall i hi]; simp
  · intro i hi
    have : ∃ l' ∈ cuts 0 ns, i ∈ l' := by simpa using hi
    rw [cuts_mem, hsum] at this
    omega
  · rw [cuts_len, hsum]; simp

section
variable {Q : Exit → Act → World → Prop} {L ns : List Nat} {S : World → Prop} {K : Act → World → Prop} {k n : Nat} {o : Oper} {l : List Oper} {a : Act} {w : World}
theorem opens (S : World → Prop) (hS : S w) (h : walkO P ops L S (phasesO P ops L Q (k + n) ns (l.drop n)) k n l a w) : phasesO P ops L Q k (n :: ns) l a w := ⟨S, hS, h⟩
theorem ends (h : Q .normal a w) : phasesO P ops L Q k [] l a w := h
theorem done (h : K a w) : walkO P ops L S K k 0 l a w := by unfold walkO; exact h
theorem quiet {v : Value} (hL : L.contains k = false) (hw : Region.wanted o (yielded ops a.tmps) = true) (hq : ∀ w', S w' → (execOp a.eval o).run P w' = .ok (.value v) w')
    (h : walkO P ops L S K (k + 1) n l (a.put o.dst v) w) : walkO P ops L S K k (n + 1) (o :: l) a w := by
  unfold walkO; rw [if_neg (by rw [hL]; simp)]; exact ⟨v, .inl ⟨hw, hq⟩, h⟩
theorem skips (hw : Region.wanted o (yielded ops a.tmps) = false) (h : walkO P ops L S K (k + 1) n l (a.put o.dst undef) w) : walkO P ops L S K k (n + 1) (o :: l) a w := by
  unfold walkO
  split
  · exact ⟨fun hw' => (by rw [hw] at hw'; cases hw'), fun _ => h⟩
  · exact ⟨undef, .inr ⟨hw, rfl⟩, h⟩
theorem loud (hL : L.contains k = true) (hw : Region.wanted o (yielded ops a.tmps) = true)
    (h : ∀ K' : Act → World → Prop, (∀ a w, S w → walkO P ops L S K (k + 1) n l a w → K' a w) → o.wp P a w K' NoExit) : walkO P ops L S K k (n + 1) (o :: l) a w := by
  unfold walkO; rw [if_pos hL]
  exact ⟨fun _ => h _ (fun a w h1 h2 => ⟨h1, h2⟩), fun hw' => (by rw [hw] at hw'; cases hw')⟩
end

end Go.Lex
