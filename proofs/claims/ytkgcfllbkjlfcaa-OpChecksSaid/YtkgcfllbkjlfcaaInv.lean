/- A region that draws its order, by an invariant over what has been carried out: each operation, whenever it may come up, leads from the invariant to the invariant. Over any program. -/
import Derived.Orders
import Derived.Test.YtkgcfllbkjlfcaaBase
import Derived.Laws.Rows
import Derived.Laws.Tables
namespace Go.Inv
variable {P : Program} {ops : Array Oper} {Q : Exit → Act → World → Prop} {md : Region.Mode}

def doneOf (listed : Array Bool) : Nat → Bool := fun k => listed.getD k false
theorem doneOf_set {listed : Array Bool} {i : Nat} (h : i < listed.size) : doneOf (listed.setIfInBounds i true) = fun k => k == i || doneOf listed k := by
  funext k
  unfold doneOf
  by_cases hk : k = i
  · subst hk; simp [Array.getD_eq_getD_getElem?, h]
  · have hk' : (k == i) = false := by simpa using hk
    rw [getD_set_ne false (fun e => hk e.symm), hk']; rfl

def backB (md : Region.Mode) (ops : Array Oper) : Bool := ops.toList.zipIdx.all fun x => x.1.after.toList.all fun e => !Region.binds md e || decide (e.on < x.2)

theorem back_of (h : backB md ops = true) : ∀ j o, ops[j]? = some o → ∀ e ∈ o.after, Region.binds md e = true → e.on < j := by
  intro j o hj e he hb
  unfold backB at h
  rw [List.all_eq_true] at h
  have h1 := h (o, j) (by rw [List.mem_zipIdx_iff_getElem?]; simpa using hj)
  rw [List.all_eq_true] at h1
  have h2 := h1 e (by simpa using he)
  simpa [hb] using h2

theorem all_of_ready (hback : ∀ j o, ops[j]? = some o → ∀ e ∈ o.after, Region.binds md e = true → e.on < j) {listed : Array Bool} (hs : listed.size = ops.size) (hr : Region.ready md ops listed = []) :
    ∀ j, j < ops.size → doneOf listed j = true := by
  intro j
  induction j using Nat.strongRecOn with
  | ind j ih =>
    intro hj
    cases hd : doneOf listed j with
    | true => rfl
    | false =>
      exfalso
      have : j ∈ Region.ready md ops listed := by
        rw [mem_ready]
        refine ⟨?_, ops[j], Array.getElem?_eq_getElem hj, fun e he hb => ?_⟩
        · unfold doneOf at hd
          rw [Array.getD_eq_getD_getElem?, Array.getElem?_eq_getElem (by omega)] at hd ⊢
          exact hd
        · exact ih e.on (hback j _ (Array.getElem?_eq_getElem hj) e he hb) (by have := hback j _ (Array.getElem?_eq_getElem hj) e he hb; omega)
      rw [hr] at this
      cases this

theorem any_inv (hback : ∀ j o, ops[j]? = some o → ∀ e ∈ o.after, Region.binds md e = true → e.on < j) (I : (Nat → Bool) → Act → World → Prop)
    (hstep : ∀ dn a w i o, I dn a w → ops[i]? = some o → dn i = false → (∀ e ∈ o.after, Region.binds md e = true → dn e.on = true) →
      Region.wanted o (yielded ops a.tmps) = true ∧ o.wp P a w (I (fun k => k == i || dn k)) Q)
    (hend : ∀ dn a w, I dn a w → (∀ i, i < ops.size → dn i = true) → Q .normal a w) :
    ∀ (fuel : Nat) (listed : Array Bool) (a : Act) (w : World), listed.size = ops.size → listed.toList.count false ≤ fuel → I (doneOf listed) a w → wpAny P md ops Q fuel listed a w := by
  intro fuel
  induction fuel with
  | zero =>
    intro listed a w hs hc hI
    have hall : ∀ i, i < ops.size → doneOf listed i = true := by
      intro i hi
      cases hd : doneOf listed i with
      | true => rfl
      | false =>
        exfalso
        unfold doneOf at hd
        rw [Array.getD_eq_getD_getElem?, Array.getElem?_eq_getElem (by omega)] at hd
        have : false ∈ listed.toList := by
          have h1 : listed[i]'(by omega) ∈ listed := Array.getElem_mem (by omega)
          simp only [Option.getD_some] at hd
          rw [hd] at h1
          simpa using h1
        have := List.count_pos_iff.2 this
        omega
    refine ⟨?_, hend _ _ _ hI hall⟩
    rw [List.eq_nil_iff_forall_not_mem]
    intro i hi
    obtain ⟨h0, o, ho, _⟩ := mem_ready.1 hi
    have hi' := (Array.getElem?_eq_some_iff.1 ho).1
    have := hall i hi'
    unfold doneOf at this
    rw [Array.getD_eq_getD_getElem?, Array.getElem?_eq_getElem (by omega)] at this h0
    simp only [Option.getD_some] at this h0
    rw [this] at h0; cases h0
  | succ fuel ih =>
    intro listed a w hs hc hI
    refine ⟨fun hr => hend _ _ _ hI (all_of_ready hback hs hr), fun i hi => ?_⟩
    obtain ⟨h0, o, ho, hall⟩ := mem_ready.1 hi
    have hi' := (Array.getElem?_eq_some_iff.1 ho).1
    have hd : listed[i]'(by omega) = false := by
      rw [Array.getD_eq_getD_getElem?, Array.getElem?_eq_getElem (by omega)] at h0
      simpa using h0
    have hd' : doneOf listed i = false := by
      unfold doneOf
      rw [Array.getD_eq_getD_getElem?, Array.getElem?_eq_getElem (by omega)]
      simpa using hd
    obtain ⟨hw, hwp⟩ := hstep _ a w i o hI ho hd' (fun e he hb => hall e he hb)
    unfold wpOp
    rw [ho]
    simp only [hw, if_true]
    refine .inl (Oper.wp_mono (fun a' w' h => ?_) hwp)
    refine ih _ a' w' (by simpa using hs) ?_ (by rw [doneOf_set (by omega)]; exact h)
    rw [Array.toList_setIfInBounds, List.count_set (by simpa using (by omega : i < listed.size))]
    have h1 : (listed.toList[i]'(by simpa using (by omega : i < listed.size))) = false := by simpa using hd
    have h2 : 0 < listed.toList.count false := List.count_pos_iff.2 (by rw [← h1]; exact List.getElem_mem _)
    simp only [h1]
    have h3 : (if (true == false) = true then 1 else 0 : Nat) = 0 := rfl
    have h4 : (if (false == false) = true then 1 else 0 : Nat) = 1 := rfl
    rw [h4]
    have h5 : ∀ b : Nat, (b + if (true == false) = true then 1 else 0) = b := fun b => by rw [h3]; rfl
    rw [h5]
    omega

theorem region {id : Nat} {a : Act} {w : World} (l : List Oper) (hm : P.follows .mixedOrders = true) (hB : backB .any l.toArray = true) (I : (Nat → Bool) → Act → World → Prop)
    (h0 : I (fun _ => false) a w.drew)
    (hstep : ∀ dn a w i o, I dn a w → l[i]? = some o → dn i = false → (∀ e ∈ o.after, Region.binds .any e = true → dn e.on = true) →
      Region.wanted o (yielded l.toArray a.tmps) = true ∧ o.wp P a w (I (fun k => k == i || dn k)) Q)
    (hend : ∀ dn a w, I dn a w → (∀ i, i < l.length → dn i = true) → Q .normal a w) : (Code.region id l.toArray true).wp P Q a w := by
  refine wp_region_any hm (any_inv (back_of hB) I (fun dn a w i o h1 h2 => hstep dn a w i o h1 (by simpa using h2)) (fun dn a w h1 h2 => hend dn a w h1 (by simpa using h2)) _ _ _ _ (by simp) (by simp [List.count_replicate]) ?_)
  have : doneOf (Array.replicate l.toArray.size false) = fun _ => false := by
    funext k
    unfold doneOf
    rw [Array.getD_eq_getD_getElem?, Array.getElem?_replicate]
    split <;> rfl
  rw [this]
  exact h0

/-! ### a frame with some slots turned -/
def over (a : Act) (ds : List Nat) (x : Nat → Value) : Act := { a with tmps := ds.foldl (fun t d => t.setIfInBounds d (x d)) a.tmps }
theorem fold_get (x : Nat → Value) (k : Nat) : ∀ (ds : List Nat) (t : Array Value), (ds.foldl (fun t d => t.setIfInBounds d (x d)) t)[k]? = if k < t.size ∧ k ∈ ds then some (x k) else t[k]?
  | [], t => by simp
  | d :: ds, t => by
    rw [List.foldl_cons, fold_get x k ds, Array.size_setIfInBounds, Array.getElem?_setIfInBounds]
    by_cases hk : d = k
    · subst hk
      by_cases h1 : d < t.size <;> simp [h1]
    · have : ¬ k = d := fun e => hk e.symm
      simp [hk, this]
theorem over_put {a : Act} {ds : List Nat} {x : Nat → Value} {d : Nat} {v : Value} (h : d ∈ ds) : (over a ds x).put (some d) v = over a ds (fun k => if k = d then v else x k) := by
  have key : (ds.foldl (fun t d => t.setIfInBounds d (x d)) a.tmps).setIfInBounds d v = ds.foldl (fun t e => t.setIfInBounds e ((fun k => if k = d then v else x k) e)) a.tmps := by
   apply Array.ext_getElem?
   intro k
   rw [Array.getElem?_setIfInBounds, fold_get, fold_get (fun k => if k = d then v else x k)]
   have hsz : (ds.foldl (fun t d => t.setIfInBounds d (x d)) a.tmps).size = a.tmps.size := by
     have : ∀ (ds : List Nat) (t : Array Value), (ds.foldl (fun t d => t.setIfInBounds d (x d)) t).size = t.size := by
       intro ds
       induction ds with
       | nil => intro t; rfl
       | cons d ds ih => intro t; rw [List.foldl_cons, ih, Array.size_setIfInBounds]
     exact this _ _
   by_cases hk : d = k
   · subst hk
     by_cases h1 : d < a.tmps.size
     · simp [h1, h, hsz]
     · simp [h1, hsz]
   · have : ¬ k = d := fun e => hk e.symm
     simp [hk, this]
  show ({ a with tmps := (ds.foldl (fun t d => t.setIfInBounds d (x d)) a.tmps).setIfInBounds d v } : Act) = _
  rw [key]; rfl
theorem over_put_none {a : Act} {ds : List Nat} {x : Nat → Value} {v : Value} : (over a ds x).put none v = over a ds x := rfl
theorem over_start (a : Act) (ds : List Nat) : over a ds (fun d => a.tmps.getD d undef) = a := by
  unfold over
  have : ds.foldl (fun t d => t.setIfInBounds d (a.tmps.getD d undef)) a.tmps = a.tmps := by
    apply Array.ext_getElem?
    intro k
    rw [fold_get (fun d => a.tmps.getD d undef)]
    split
    · rename_i h
      rw [Array.getD_eq_getD_getElem?, Array.getElem?_eq_getElem h.1]; rfl
    · rfl
  rw [this]
/-- what an operand reads as -/
theorem over_slot {a : Act} {ds : List Nat} {x : Nat → Value} {k : Nat} (h : k ∈ ds) (hk : k < a.tmps.size) : (over a ds x).eval (.tmp k) = x k := by
  show (over a ds x).tmps.getD k undef = x k
  unfold over
  rw [Array.getD_eq_getD_getElem?, fold_get, if_pos ⟨hk, h⟩]; rfl
theorem over_other {a : Act} {ds : List Nat} {x : Nat → Value} {k : Nat} (h : k ∉ ds) : (over a ds x).eval (.tmp k) = a.eval (.tmp k) := by
  show (over a ds x).tmps.getD k undef = a.tmps.getD k undef
  unfold over
  rw [Array.getD_eq_getD_getElem?, fold_get, if_neg (fun h' => h h'.2), Array.getD_eq_getD_getElem?]

/-- one operation's step, shut up (the elaborator does not run it) -/
structure Step (P : Program) (o : Oper) (a : Act) (w : World) (K : Act → World → Prop) (Q : Exit → Act → World → Prop) : Prop where
  out : o.wp P a w K Q

theorem region_over {id : Nat} {a0 : Act} {w : World} (l : List Oper) (ds : List Nat) (hm : P.follows .mixedOrders = true) (hB : (backB .any l.toArray && l.all (·.guard.isNone)) = true) (J : (Nat → Value) → (Nat → Bool) → World → Prop)
    (h0 : J (fun d => a0.tmps.getD d undef) (fun _ => false) w.drew)
    (hstep : ∀ x dn w i o, J x dn w → l[i]? = some o → dn i = false → (∀ e ∈ o.after, Region.binds .any e = true → dn e.on = true) →
      Step P o (over a0 ds x) w (fun a' w' => ∃ x', a' = over a0 ds x' ∧ J x' (fun k => k == i || dn k) w') Q)
    (hend : ∀ x dn w, J x dn w → (∀ i, i < l.length → dn i = true) → Q .normal (over a0 ds x) w) : (Code.region id l.toArray true).wp P Q a0 w := by
  rw [Bool.and_eq_true] at hB
  refine region l hm hB.1 (fun dn a w => ∃ x, a = over a0 ds x ∧ J x dn w) ⟨_, (over_start a0 ds).symm, h0⟩ ?_ ?_
  · rintro dn a w i o ⟨x, rfl, hJ⟩ ho hd hdep
    have hg : o.guard = none := by
      have := List.all_eq_true.1 hB.2 o (List.mem_of_getElem? ho)
      simpa using this
    exact ⟨by simp [Region.wanted, hg], (hstep x dn w i o hJ ho hd hdep).out⟩
  · rintro dn a w ⟨x, rfl, hJ⟩ hall
    exact hend x dn w hJ hall

section
variable {o : Oper} {a : Act} {w : World} {K : Act → World → Prop}
theorem Step.call (f : FuncId) (args : Array Operand) (ts : Array TypeId) (ho : o.op = .call { callee := .value (.func f), args := args, argTypes := ts })
    (hf : ∀ (l : Array Value) (w : World), (callFunc f l).run P w = .ok (.enter f l) w)
    (h : Calls P f (args.map a.eval) w fun e w' => match e with | .returned v => K (a.put o.dst v) w' | _ => False) : Step P o a w K Q := by
  have hrun : (execOp a.eval o).run P w = .ok (.enter f (args.map a.eval)) w := by
    simp [execOp, ho, resolve, invoke, Act.eval, Deferred.ofValue, hf]
  refine ⟨?_⟩
  unfold Oper.wp
  rw [hrun, Oper.upon_enter]
  refine h.mono fun e w' he => ?_
  cases e <;> first | exact he | exact he.elim

theorem Step.alloc (t : TypeId) (z : Value) (ho : o.op = .alloc t) (hz : (zeroValue t).run P w = .ok z w)
    (h : K (a.put o.dst (.pointer (some ⟨w.heap.size, 0, none⟩))) (w.alloc (.cells z.cells t))) : Step P o a w K Q := by
  refine ⟨?_⟩
  unfold Oper.wp
  simp [execOp, ho, Instr.alloc, hz, Result.andThen]
  exact h

theorem Step.load_row (ty : TypeId) (x : Operand) (ho : o.op = .load ty x)
    (g : Nat) (hx : a.eval x = .pointer (some ⟨g, 0, none⟩)) (t : TypeId) (cs : Array Value) (fr : Nat × Nat) (d : TypeDesc) (hg : w.heap[g]? = some (.cells cs t fr))
    (hu : P.underlying ty = some d) (hd : (match d with | .struct _ | .array _ _ => true | _ => false) = true) (hi : (P.info? ty).map (·.size) = some cs.size)
    (h : K (a.put o.dst (.agg cs)) w) : Step P o a w K Q := ⟨wp_load_row ty x ho g hx t cs fr d hg hu hd hi h⟩

theorem Step.store_row (ty : TypeId) (x y : Operand) (ho : o.op = .store ty x y)
    (g : Nat) (cells : Array Value) (hx : a.eval x = .pointer (some ⟨g, 0, none⟩)) (hy : a.eval y = .agg cells)
    (t : TypeId) (old : Array Value) (hg : w.heap[g]? = some (.cells old t (0, 0))) (hi : (P.info? ty).map (·.size) = some cells.size)
    (hold : old.size = cells.size) (h1 : cells.all (·.oneCell') = true)
    (h : K (a.put o.dst undef) (w.setRow g cells)) : Step P o a w K Q := ⟨wp_store_row ty x y ho g cells hx hy t old hg hi hold h1 h⟩

/-- an operation that yields a value and leaves the world as it is -/
theorem Step.value {v : Value} (hr : (execOp a.eval o).run P w = .ok (.value v) w) (h : K (a.put o.dst v) w) : Step P o a w K Q := by
  refine ⟨?_⟩
  unfold Oper.wp
  rw [hr]
  exact h
end
end Go.Inv
