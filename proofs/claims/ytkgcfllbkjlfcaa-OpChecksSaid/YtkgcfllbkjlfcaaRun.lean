/- Straight operations that do not look at the world, run by computation: a list of them at once. Over any program. -/
import Derived.Test.YtkgcfllbkjlfcaaBase
import Derived.Laws.Strings
namespace Go
/-- two strings are the same, as the model asks -/
theorem bytes_eq (a b : ByteArray) : (a.toList == b.toList) = decide (a = b) := by
  by_cases h : a = b
  · subst h; simp
  · have h2 : ¬ a.toList = b.toList := fun e => h (by
      rw [ByteArray.toList_eq, ByteArray.toList_eq] at e
      exact ByteArray.ext (Array.ext' e))
    simp [h, h2]
def runOps (P : Program) : List Oper → Act → World → Option Act
  | [], a, _ => some a
  | o :: l, a, w => match o.guard, (execOp a.eval o).run P w with
    | none, .ok (.value v) _ => runOps P l (a.put o.dst v) w
    | _, _ => none

/-- operations that yield a value in every world, and leave it as it is -/
def Still (P : Program) (a : Act) (o : Oper) (v : Value) : Prop := o.guard = none ∧ ∀ w, (execOp a.eval o).run P w = .ok (.value v) w

theorem still_build {P : Program} {a : Act} {o : Oper} {v : Value} {t : TypeId} {parts : List (Nat × Operand)} (hg : o.guard = none) (ho : o.op = .build t parts.toArray) (h : ∀ w, (Instr.build t (parts.map fun x => (x.1, a.eval x.2)).toArray).run P w = .ok v w) : Still P a o v :=
  ⟨hg, fun w => by simp only [execOp, ho, List.map_toArray, Sem.run_bind, h w, Sem.run_pure, Result.andThen_ok]⟩

theorem wpList_still {P : Program} {ops : Array Oper} {Q : Exit → Act → World → Prop} {o : Oper} {rest : List Oper} {a : Act} {w : World} {v : Value} (h : Still P a o v)
    (k : wpList P ops Q rest (a.put o.dst v) w) : wpList P ops Q (o :: rest) a w := by
  refine wpList_plain h.1 fun K hK => ?_
  unfold Oper.wp
  rw [h.2 w]
  exact hK _ _ k

theorem wpList_store {P : Program} {ops : Array Oper} {Q : Exit → Act → World → Prop} {o : Oper} {rest : List Oper} {a : Act} {w w' : World} {t : TypeId} {p x : Operand} (hg : o.guard = none) (ho : o.op = .store t p x)
    (h : (Instr.storeAt t (a.eval p) (a.eval x)).run P w = .ok () w') (k : wpList P ops Q rest (a.put o.dst undef) w') : wpList P ops Q (o :: rest) a w := by
  refine wpList_plain hg fun K hK => ?_
  unfold Oper.wp
  simp only [execOp, ho, Sem.run_bind, h, Sem.run_pure, Result.andThen_ok]
  exact hK _ _ k
theorem wpList_buildSlice {P : Program} {ops : Array Oper} {Q : Exit → Act → World → Prop} {o : Oper} {rest : List Oper} {a : Act} {w w' : World} {t : TypeId} {n : Nat} {v : Value} {parts : List (Nat × Operand)} (hg : o.guard = none) (ho : o.op = .buildSlice t n parts.toArray)
    (h : (Instr.buildSlice t n (parts.map fun x => (x.1, a.eval x.2)).toArray).run P w = .ok v w') (k : wpList P ops Q rest (a.put o.dst v) w') : wpList P ops Q (o :: rest) a w := by
  refine wpList_plain hg fun K hK => ?_
  unfold Oper.wp
  simp only [execOp, ho, List.map_toArray, Sem.run_bind, h, Sem.run_pure, Result.andThen_ok]
  exact hK _ _ k
theorem act_put (l : Array Value) (ds : List Deferred) (d : Nat) (v : Value) : Act.put { tmps := l, defers := ds } (some d) v = { tmps := l.setIfInBounds d v, defers := ds } := rfl
theorem act_put_none (a : Act) (v : Value) : a.put none v = a := rfl

theorem results_cell {P : Program} {fn : Func} {tmps : Array Value} {w w' : World} {d : Tmp} {t : TypeId} {ad : Addr} {v : Value} (hr : fn.results = #[.cell d t]) (ha : tmps.getD d undef = .pointer (some ad))
    (hl : (loadVar t ad).run P w = .ok v w') : (results fn tmps).run P w = .ok v w' := by
  have ha' : tmps[d]?.getD undef = .pointer (some ad) := by rw [← ha]; simp [Array.getD_eq_getD_getElem?]
  simp only [results, hr]
  simp [ha', asAddr, hl]

inductive Stills (P : Program) : List Oper → Act → Act → Prop
  | nil (a : Act) : Stills P [] a a
  | cons {o : Oper} {l : List Oper} {a b : Act} {v : Value} (h : Still P a o v) (k : Stills P l (a.put o.dst v) b) : Stills P (o :: l) a b

theorem wpList_stills {P : Program} {ops : Array Oper} {Q : Exit → Act → World → Prop} {l rest : List Oper} {a b : Act} {w : World} (h : Stills P l a b)
    (k : wpList P ops Q rest b w) : wpList P ops Q (l ++ rest) a w := by
  induction h with
  | nil => exact k
  | cons h _ ih => exact wpList_still h (ih k)
end Go
