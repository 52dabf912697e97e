/- Where a struct's fields lie (law24). -/
import Derived.Test.YtjpkmaacalelcaaDoorYd
import Derived.Test.YtjpkmaacalelcaaDoorYc
import Derived.Test.YtjpkmaacalelcaaDoorEl
set_option linter.unusedSimpArgs false
set_option linter.unusedVariables false
set_option linter.unusedSectionVars false
set_option linter.unnecessarySimpa false
namespace Go.Proofs.YtjpkmaacalelcaaDoor
open Go.RowKit Go.Ty Go.Deep

attribute [local go_sem] Program.isFuncB Program.isSliceB

variable {w w' w'' w0 : World}

def natsI (l : List Nat) : List Value := l.map fun (n : Nat) => .int .i64 n
def msC (l : List (Nat × Nat)) : List Value := l.flatMap fun p => [.int .i64 p.1, .int .i64 p.2]
theorem msC_len (l : List (Nat × Nat)) : (msC l).length = l.length * 2 := by
  induction l with
  | nil => rfl
  | cons x l ih =>
    unfold msC at *
    rw [List.flatMap_cons, List.length_append, ih, List.length_cons]
    simp only [List.length_cons, List.length_nil]
    omega
theorem msC_at : ∀ (l : List (Nat × Nat)) (k : Nat) (h : k < l.length), ((msC l).drop (k * 2)).take 2 = [.int .i64 l[k].1, .int .i64 l[k].2]
  | x :: l, 0, _ => rfl
  | x :: l, k + 1, h => by
    have e : msC (x :: l) = .int .i64 x.1 :: .int .i64 x.2 :: msC l := rfl
    rw [e, show (k + 1) * 2 = k * 2 + 1 + 1 from by omega, List.drop_succ_cons, List.drop_succ_cons]
    have := msC_at l k (by simpa using h)
    simpa using this
theorem MsIn_of {a : Option Addr} {n c : Nat} {l : List (Nat × Nat)} (h : Reads w (.slice a l.length c) 2 l.length (msC l)) : MsIn w a l := fun k hk => by
  obtain ⟨b, o, rfl, h1⟩ := reads_elem h (by omega) hk
  rw [msC_at l k hk] at h1
  exact ⟨b, o, rfl, h1⟩
theorem bestM_al (x : Nat × Nat) (l : List (Nat × Nat)) : (bestM x l).2 = maxA (x :: l) := by
  induction l generalizing x with
  | nil => unfold bestM maxA; simp
  | cons y l ih =>
    unfold bestM
    rw [List.foldl_cons]
    have := ih (if x.2 < y.2 then y else x)
    unfold bestM at this
    rw [this, maxA_cons, maxA_cons, maxA_cons]
    split <;> omega
theorem results_slot {P : Program} {fn : Func} {tmps : Array Value} {w : World} {d1 d2 : Tmp} {t2 : TypeId} {a2 : Addr} {v1 v2 : Value} (hr : fn.results = #[.tmp d1, .cell d2 t2])
    (h1 : tmps.getD d1 undef = v1) (h2 : tmps.getD d2 undef = .pointer (some a2)) (l2 : (loadVar t2 a2).run P w = .ok v2 w) : (results fn tmps).run P w = .ok (.tuple #[v1, v2]) w := by
  have h1' : tmps[d1]?.getD undef = v1 := by rw [← h1]; simp [Array.getD_eq_getD_getElem?]
  have h2' : tmps[d2]?.getD undef = .pointer (some a2) := by rw [← h2]; simp [Array.getD_eq_getD_getElem?]
  simp only [results, hr]
  simp [h1', h2', asAddr, l2]

def zeroFd : Array Value := #[.string { data := #[] }, .int .i64 0, .int .i64 0, .slice none 0 0]
theorem infoFd : (Tryd.prog.info? 55).map (·.size) = some 4 := by kernel_rfl
theorem infoTy : (Tryd.prog.info? 25).map (·.size) = some 3 := by kernel_rfl
theorem infoMeas3 : (Tryd.prog.info? 60).map (fun i => (i.zero, i.size, i.bytes)) = some (some (.agg #[.int .i64 0, .int .i64 0]), 2, 16) := by kernel_rfl
theorem infoI3 : (Tryd.prog.info? 3).map (fun i => (i.zero, i.size, i.bytes)) = some (some (.int .i64 0), 1, 8) := by kernel_rfl

/-- the loop's state behind i fields -/
structure LayI (l : List St) (fs : List Ty.Fd) (w0 : World) (RB i : Nat) (x6 x7 x8 : Value) (w : World) : Prop where
  at_ : x8 = .int .i64 ((layS (whole l) (fs.take i) 0).2.2 : Nat)
  ps : w.ownsRow w0.heap.size 3 1 x6 i (natsI (layS (whole l) (fs.take i) 0).1)
  ms : w.ownsRow w0.heap.size 60 2 x7 i (msC (layS (whole l) (fs.take i) 0).2.1)
  ne : ∀ k, x6.ownBlock = some k → x7.ownBlock ≠ some k
  rb : w.heap[RB]? = some (.cells #[.int .i64 0, .int .i64 0] 60 (0, 0))
  rn : x6.ownBlock ≠ some RB ∧ x7.ownBlock ≠ some RB
  fr : Fr no w0 w

theorem reads_ms (w : World) (a0 a1 : Value) (e : TypeId) : Reads (w.alloc (.cells #[a0, a1] e)) (.slice (some ⟨w.heap.size, 0, none⟩) 1 1) 2 1 [a0, a1] := by
  refine .inr ⟨_, 1, rfl, Nat.le_refl _, by unfold maxLen; omega, rfl, fun j u hu => ?_⟩
  rw [Addr.add_lit]
  refine cell_of_heap (heap_new w _) ?_
  rw [Nat.zero_add]
  simpa using hu
theorem reads_row1 {b : Nat} {v : Value} {e : TypeId} (h : w.heap[b]? = some (.cells #[v] e (0, 0))) : Reads w (.slice (some ⟨b, 0, none⟩) 1 1) 1 1 [v] := by
  refine .inr ⟨_, 1, rfl, Nat.le_refl _, by unfold maxLen; omega, rfl, fun j u hu => ?_⟩
  rw [Addr.add_lit]
  refine cell_of_heap h ?_
  rw [Nat.zero_add]
  simpa using hu
theorem reads_row2 {b : Nat} {v u : Value} {e : TypeId} (h : w.heap[b]? = some (.cells #[v, u] e (0, 0))) : Reads w (.slice (some ⟨b, 0, none⟩) 1 1) 2 1 [v, u] := by
  refine .inr ⟨_, 1, rfl, Nat.le_refl _, by unfold maxLen; omega, rfl, fun j u hu => ?_⟩
  rw [Addr.add_lit]
  refine cell_of_heap h ?_
  rw [Nat.zero_add]
  simpa using hu
theorem At_tail {b o : Nat} {v : Value} {vs : List Value} (h : At w b o (v :: vs)) : At w b (o + 1) vs := fun j u hj => by
  have := h (j + 1) u (by simpa using hj)
  rwa [show o + (j + 1) = o + 1 + j from by omega] at this

set_option maxRecDepth 100000 in
set_option maxHeartbeats 8000000 in
theorem lay_ok (l : List St) (hl : Sound l) (s : Nat) (hsl : s < l.length) (HW : WholeOk l s) (w : World) (sa : Option Addr) (sc : Nat) (hs : SlIn w sa l) :
    Calls Tryd.prog 50 #[.slice sa l.length sc, .int .i64 s] w fun e w' => ∃ pv, e = .returned (.tuple #[pv, meas (whole l s)]) ∧
      w'.ownsRow w.heap.size 3 1 pv (fieldsAt l s).length (natsI (layM (whole l) (fieldsAt l s)).1) ∧ Fr no w w' := by
  have HS := Lib.hid hs
  obtain ⟨b, o, fa, fc, rfl, hA, hF⟩ := hs s hsl
  have hfs : l[s].fs = fieldsAt l s := by unfold fieldsAt; rw [List.getElem?_eq_getElem hsl]
  have hne : fieldsAt l s ≠ [] := hl.ne s hsl
  have hle := hl.le s
  have HWE := Lib.hid (whole_eq hl.down s)
  have HALN := Lib.hid (hl.al hsl)
  rw [HWE.out] at HALN ⊢
  rw [hfs] at hA hF
  have HF := Lib.hid hF
  have HSH := Lib.hid (hl.sh s)
  have HDN := Lib.hid (fun f hf => hl.down s f hf)
  generalize fieldsAt l s = fs at *
  have c1 : (w.alloc (.cells #[.int .i64 0, .int .i64 0] 60)).cell? ⟨b, o + s * 2 + 1, none⟩ = some (.slice fa fs.length fc) := ((Fr.refl no w).alloc (.cells #[.int .i64 0, .int .i64 0] 60)).cell (hA 1 _ rfl) (by simp)
  have hsl' : (s : Int) < l.length := by omega
  have HR0 := Lib.hid (heap_new w (.cells #[.int .i64 0, .int .i64 0] 60))
  have R0 := Lib.hid ((Fr.refl no w).alloc (.cells #[.int .i64 0, .int .i64 0] 60))
  have HSND := Lib.hid hl
  have HI0 := Lib.hid hsl
  clear hs hA hF hl hfs HWE
  go_enter Tryd.func50, Tryd.ntmps50
  go_wp2_with fail
  have HI0 : LayI l fs w w.heap.size 0 (.slice none 0 0) (.slice none 0 0) (.int .i64 0) (w.alloc (.cells #[.int .i64 0, .int .i64 0] 60)) :=
    ⟨rfl, World.ownsRow_nil _ _ _ _, World.ownsRow_nil _ _ _ _, by simp [Value.ownBlock], HR0.out, by simp [Value.ownBlock], R0.out⟩
  have HI0' := Lib.hid HI0
  obtain ⟨RB, hRB⟩ : ∃ b, b = w.heap.size := ⟨_, rfl⟩
  rw [← hRB] at HI0' ⊢
  have HRB := Lib.hid hRB
  clear HI0 hRB HR0 R0 c1
  generalize w.alloc (.cells #[.int .i64 0, .int .i64 0] 60) = w1 at *
  go_loopw [6, 7, 8, 19] (fun x6 x7 x8 x19 wr => ∃ i : Nat, i ≤ fs.length ∧ x19 = .int .i64 i ∧ Hid (LayI l fs w RB i x6 x7 x8 wr)) (fun _ _ _ y _ => (fs.length - intOf y).toNat)
  case atStart => exact ⟨0, by omega, rfl, HI0'⟩
  case round =>
    clear HI0'
    obtain ⟨i, hi, rfl, HI⟩ := hrel
    by_cases hil : i = fs.length
    · subst hil
      obtain ⟨pa, pc, e6⟩ := owns_shape HI.out.ps
      obtain ⟨qa, qc, e7⟩ := owns_shape HI.out.ms
      have e8 := HI.out.at_
      subst e6 e7 e8
      have HOW := Lib.hid HI.out.ps
      have HOM := Lib.hid HI.out.ms
      have HRB1 := Lib.hid HI.out.rb
      have HRN := Lib.hid HI.out.rn
      have RWI := Lib.hid HI.out.fr
      have hend : (layS (whole l) (fs.take fs.length) 0).2.2 ≤ 8193 := layS_end _ _ _ (by omega)
      have HMM := layS_ms (whole l) (fs.take fs.length) 0
      have HLM : Hid (layM (whole l) fs = ((layS (whole l) (fs.take fs.length) 0).1, (min (upN (layS (whole l) (fs.take fs.length) 0).2.2 (maxA (layS (whole l) (fs.take fs.length) 0).2.1)) 8193, maxA (layS (whole l) (fs.take fs.length) 0).2.1))) := Lib.hid (by rw [List.take_length]; rfl)
      have HAL := HALN.out
      rw [HLM.out] at HAL
      dsimp only at HAL
      have hMB : ∀ p ∈ (layS (whole l) (fs.take fs.length) 0).2.1, p.1 ≤ 100000 ∧ p.2 ≤ 100000 := fun p hp => by
        have h8 : p.2 ≤ maxA (layS (whole l) (fs.take fs.length) 0).2.1 := maxA_ge hp
        rw [HMM] at hp
        obtain ⟨f, hf, rfl⟩ := List.mem_map.1 hp
        have := ofM_le l f.t
        exact ⟨by omega, by omega⟩
      have hlen : (layS (whole l) (fs.take fs.length) 0).2.1.length = fs.length := by rw [HMM, List.length_map, List.take_length]
      clear HI HMM
      generalize layS (whole l) (fs.take fs.length) 0 = L at *
      obtain ⟨LP, LM, LE⟩ := L
      dsimp only at *
      obtain ⟨y, ys, rfl⟩ : ∃ y ys, LM = y :: ys := by
        cases LM with
        | nil => exact (hne (List.length_eq_zero_iff.1 hlen.symm)).elim
        | cons y ys => exact ⟨y, ys, rfl⟩
      rw [List.length_cons] at hlen
      have HRD := owns_reads HOM.out
      rw [← hlen] at HRD
      have HMI : MsIn wr qa (y :: ys) := MsIn_of (n := 0) (by rw [List.length_cons]; exact HRD)
      have HC := Lib.hid (maxfunc_ok wr qa qc y ys HMI (by omega) hMB)
      have HBM := bestM_al y ys
      rw [hlen] at HC
      generalize bestM y ys = bm at *
      obtain ⟨b1, b2⟩ := bm
      dsimp only at *
      rw [← HBM] at HAL HLM
      clear HRD HMI hMB HBM
      have hz : ¬ ((fs.length : Int) < fs.length) := by omega
      have hfld : ∀ w, (Instr.field 60 (.agg #[.int .i64 b1, .int .i64 b2]) 1).run Tryd.prog w = .ok (.int .i64 b2) w := fun w => by kernel_rfl
      go_wp2_with fail
      refine HC.out.mono ?_
      rintro e w2 ⟨rfl, r2⟩
      have HOW2 := Lib.hid (owns_fr HOW.out r2 (by simp))
      have HRB2 := Lib.hid (r2.heap HRB1.out (by simp))
      have R2 := Lib.hid (RWI.out.trans r2)
      clear r2 HC HOW HOM HRB1 RWI
      go_wp2_with fail
      refine (up_ok _ LE b2 (by omega) (by omega)).mono ?_
      rintro e w3 ⟨rfl, rfl⟩
      have hup := upN_le LE b2 HAL.1
      generalize upN LE b2 = U at *
      go_wp2_with (refine wpList_store_row rfl 60 (.tmp 5) (.tmp 54) rfl RB #[.int .i64 (min (U : Int) 8193), .int .i64 b2] rfl rfl _ _ HRB2.out (by rw [infoMeas]; rfl) rfl (by simp [Value.oneCell']) ?_; rw [act_put_none])
      refine bodyPost_ret (results_slot rfl rfl rfl (load_meas _ _ _ _ (setRow_heap _ _ _ _ _ _ HRB2.out))) rfl ?_
      have rx : Fr (only [RB]) w2 (w2.setRow RB #[.int .i64 (min (U : Int) 8193), .int .i64 b2]) := fr_setRow (Fr.refl _ _) (.inl (by simp))
      rw [HLM.out]
      refine ⟨_, ?_, owns_fr HOW2.out rx (fun k hk e => HRN.out.1 (by simp at e; rw [hk, e])), R2.out.trans' rx (fun k hk _ => by have := HRB.out; simp at hk; omega)⟩
      unfold meas
      dsimp only
      rw [show ((min U 8193 : Nat) : Int) = min (U : Int) 8193 from by omega]
      rfl
    · have hlt : i < fs.length := by omega
      obtain ⟨fb, fo, ma, mc, efa, hA, hT⟩ := (HF.out.fr HI.out.fr) i hlt
      subst efa
      obtain ⟨pa, pc, e6⟩ := owns_shape HI.out.ps
      obtain ⟨qa, qc, e7⟩ := owns_shape HI.out.ms
      have e8 := HI.out.at_
      subst e6 e7 e8
      have hf : fs[i] ∈ fs := List.getElem_mem hlt
      have hsh := HSH.out _ hf
      obtain ⟨h1, h2, h3, -, -, h6⟩ := shaped_iff.1 hsh
      have hal := HSND.out.of_al hsh
      have hml := ofM_le l fs[i].t
      have h2' : fs[i].t.ms.length ≤ 1000 := by omega
      have HOF := Lib.hid (fun w sa ma sc mc => of_ok l s HW fs[i].t h1 w sa ma sc mc h6 h2' (HDN.out _ hf))
      have hend : (layS (whole l) (fs.take i) 0).2.2 ≤ 8193 := layS_end _ _ _ (by omega)
      have HSN := layS_snoc (whole l) fs[i] (fs.take i) 0
      rw [← List.take_succ_eq_append_getElem hlt] at HSN
      have HSN := Lib.hid HSN
      have HOW := Lib.hid (HI.out.ps)
      have HOM := Lib.hid (HI.out.ms)
      generalize hL : layS (whole l) (fs.take i) 0 = L at *
      generalize hM : ofM (whole l) fs[i].t = M at *
      generalize hf2 : fs[i] = f at *
      obtain ⟨nm, tb, ts, tms⟩ := f
      obtain ⟨LP, LM, LE⟩ := L
      obtain ⟨M1, M2⟩ := M
      dsimp only at *
      have AF := Lib.hid hA
      have TF := Lib.hid hT
      have HNE := Lib.hid HI.out.ne
      have HRN := Lib.hid HI.out.rn
      have HRB1 := Lib.hid HI.out.rb
      have RWI := Lib.hid HI.out.fr
      clear h2' hA hT h3 h6 hsh hf hL hM hf2 HI
      have hlt' : (i : Int) < fs.length := by omega
      have HB0 := Lib.hid (heap_new wr (.cells #[.string { data := #[] }, .int .i64 0, .int .i64 0, .slice none 0 0] 55))
      have HB1 := Lib.hid (setRow_heap _ _ _ #[.string nm, .int .i64 tb, .int .i64 ts, .slice ma tms.length mc] _ _ HB0.out)
      have r1 : Fr no wr ((wr.alloc (.cells #[.string { data := #[] }, .int .i64 0, .int .i64 0, .slice none 0 0] 55)).setRow wr.heap.size #[.string nm, .int .i64 tb, .int .i64 ts, .slice ma tms.length mc]) := fr_setRow ((Fr.refl no wr).alloc (.cells #[.string { data := #[] }, .int .i64 0, .int .i64 0, .slice none 0 0] 55)) (.inr (Nat.le_refl _))
      have R1 := Lib.hid r1
      have AB := Lib.hid (AF.out.fr ((Fr.refl no wr).alloc (.cells #[.string { data := #[] }, .int .i64 0, .int .i64 0, .slice none 0 0] 55)))
      clear r1
      go_upto_region 7 with (first
        | (refine wpList_load_in rfl 55 (.tmp 21) rfl fb (fo + i * 4) rfl [.string nm, .int .i64 tb, .int .i64 ts, .slice ma tms.length mc] _ AF.out Tryd.underlying55 rfl (by rw [infoFd]; rfl) ?_; simp only [Act.put, List.setIfInBounds_toArray, List.set_cons_zero, List.set_cons_succ])
        | (refine wpList_store_row rfl 55 (.tmp 10) (.tmp 22) rfl wr.heap.size #[.string nm, .int .i64 tb, .int .i64 ts, .slice ma tms.length mc] rfl rfl _ _ HB0.out (by rw [infoFd]; rfl) rfl (by simp [Value.oneCell']) ?_; rw [act_put_none]))
      generalize (wr.alloc (.cells #[.string { data := #[] }, .int .i64 0, .int .i64 0, .slice none 0 0] 55)).setRow wr.heap.size #[.string nm, .int .i64 tb, .int .i64 ts, .slice ma tms.length mc] = w2 at *
      obtain ⟨FB, hFB⟩ : ∃ b, b = wr.heap.size := ⟨_, rfl⟩
      have HFB := Lib.hid hFB
      rw [← hFB] at HB1 ⊢
      clear hFB HB0 AB
      have AT2 : Hid (At w2 FB 1 [.int .i64 tb, .int .i64 ts, .slice ma tms.length mc]) := Lib.hid (At_tail (At.of_heap HB1.out))
      have HC := Lib.hid (HOF.out w2 (some ⟨b, o, none⟩) ma sc mc (HS.out.fr (RWI.out.trans R1.out)) (TF.out.fr R1.out))
      unfold meas at HC
      dsimp only at HC
      clear HOF
      go_wp2_with (refine wpList_load_in rfl 25 (.tmp 24) rfl FB 1 rfl [.int .i64 tb, .int .i64 ts, .slice ma tms.length mc] _ AT2.out Tryd.underlying25 rfl (by rw [infoTy]; rfl) ?_; simp only [Act.put, List.setIfInBounds_toArray, List.set_cons_zero, List.set_cons_succ])
      refine HC.out.mono ?_
      rintro e w3 ⟨rfl, r3⟩
      have R3 := Lib.hid (R1.out.trans r3)
      have HC0 := Lib.hid (heap_new w3 (.cells #[.int .i64 0, .int .i64 0] 60))
      have HC1 := Lib.hid (setRow_heap _ _ _ #[.int .i64 M1, .int .i64 M2] _ _ HC0.out)
      have r4 : Fr no w3 ((w3.alloc (.cells #[.int .i64 0, .int .i64 0] 60)).setRow w3.heap.size #[.int .i64 M1, .int .i64 M2]) := fr_setRow ((Fr.refl no w3).alloc (.cells #[.int .i64 0, .int .i64 0] 60)) (.inr (Nat.le_refl _))
      have R4 := Lib.hid (R3.out.trans r4)
      have HZ3 := Lib.hid (R3.out.size)
      clear r3 r4 HC AT2 HB1 R3 R1
      go_upto_region 8 with (refine wpList_store_row rfl 60 (.tmp 11) (.tmp 26) rfl w3.heap.size #[.int .i64 M1, .int .i64 M2] rfl rfl _ _ HC0.out (by rw [infoMeas]; rfl) rfl (by simp [Value.oneCell']) ?_; rw [act_put_none])
      generalize (w3.alloc (.cells #[.int .i64 0, .int .i64 0] 60)).setRow w3.heap.size #[.int .i64 M1, .int .i64 M2] = w4 at *
      obtain ⟨MB, hMB⟩ : ∃ b, b = w3.heap.size := ⟨_, rfl⟩
      have HMB := Lib.hid hMB
      rw [← hMB] at HC1 ⊢
      clear hMB HC0
      obtain ⟨m0, m1⟩ := ce2 HC1.out
      go_wp2_with fail
      refine (up_ok _ LE M2 (by omega) (by omega)).mono ?_
      rintro e w5 ⟨rfl, rfl⟩
      have hup := upN_le LE M2 hal.1
      go_upto_region 9 with fail
      generalize upN LE M2 = U at *
      have HC4 := Lib.hid HC1.out
      have HOW4 := Lib.hid (owns_fr HOW.out R4.out (fun k hk => by simp))
      have HOM4 := Lib.hid (owns_fr HOM.out R4.out (fun k hk => by simp))
      have HRB4 := Lib.hid (R4.out.heap HRB1.out (by simp))
      have RW4 := Lib.hid (RWI.out.trans R4.out)
      have HLT : Hid (∀ k, ((Value.slice pa i pc).ownBlock = some k ∨ (Value.slice qa i qc).ownBlock = some k) → k < MB) := Lib.hid (fun k hk => by
        have h1 := HMB.out
        have h2 := HZ3.out
        rcases hk with hk | hk
        · have := (HOW.out.lt k hk).2; omega
        · have := (HOM.out.lt k hk).2; omega)
      have HMBL : Hid (MB < w4.heap.size) := Lib.hid (Array.getElem?_eq_some_iff.1 HC4.out).1
      clear R4 HRB1 HC1 HOW HOM m0 m1 RWI TF
      have hil2 := Nat.le_of_lt hlt
      have hiB := HI0.out
      generalize ha0 : Act.mk _ _ = a0
      have E6 : a0.eval (.tmp 6) = .slice pa i pc := by rw [← ha0]; rfl
      have E7 : a0.eval (.tmp 7) = .slice qa i qc := by rw [← ha0]; rfl
      have E8 : a0.eval (.tmp 8) = .int .i64 U := by rw [← ha0]; rfl
      have E11 : a0.eval (.tmp 11) = .pointer (some ⟨MB, 0, none⟩) := by rw [← ha0]; rfl
      have SZ : a0.tmps.size = 55 := by rw [← ha0]; rfl
      have HA0 := Lib.hid ha0
      clear ha0
      refine Inv.region_over _ [31, 32, 33, 34, 35, 36, 37, 38, 6, 7] (by kernel_rfl) (by kernel_rfl) (ApJ w4 w.heap.size (.slice pa i pc) (.slice qa i qc) i (natsI LP) (msC LM) (.int .i64 U) (.int .i64 M1) (.int .i64 M2)) ?_ ?_ ?_
      · have q := (Fr.refl (fun k => (Value.slice pa i pc).ownBlock = some k ∨ (Value.slice qa i qc).ownBlock = some k) w4).drew
        exact ⟨q, (fun h => by cases h), (fun h => by cases h), (fun h => by cases h), (fun _ => HOW4.out), (fun h => by cases h), (fun h => by cases h), (fun h => by cases h), (fun h => by cases h), (fun _ => HOM4.out), (fun h => by cases h), (fun h => by cases h), (fun _ => E6), (fun _ => E7), (fun h => by cases h), (fun h => by cases h)⟩
      · intro x dn w5 i5 op hJ hop hdn hdep
        have hlt5 := (List.getElem?_eq_some_iff.1 hop).1
        simp only [List.length_cons, List.length_nil] at hlt5
        obtain rfl | rfl | rfl | rfl | rfl | rfl | rfl | rfl | rfl | rfl : i5 = 0 ∨ i5 = 1 ∨ i5 = 2 ∨ i5 = 3 ∨ i5 = 4 ∨ i5 = 5 ∨ i5 = 6 ∨ i5 = 7 ∨ i5 = 8 ∨ i5 = 9 := by omega
        all_goals (cases hop)
        · refine Inv.Step.value (v := .slice pa i pc) ?_ ⟨_, Inv.over_put (by decide), hJ.s0⟩
          have e6 := (Inv.over_slot (a := a0) (ds := [31, 32, 33, 34, 35, 36, 37, 38, 6, 7]) (x := x) (k := 6) (by decide) (by rw [SZ]; decide)).trans (hJ.c6 (hJ.o8 hdn))
          simp only [execOp, e6]
          rfl
        · refine Inv.Step.value (v := .int .i64 U) ?_ ⟨_, Inv.over_put (by decide), hJ.s1⟩
          have e8 := (Inv.over_other (a := a0) (ds := [31, 32, 33, 34, 35, 36, 37, 38, 6, 7]) (x := x) (k := 8) (by decide)).trans E8
          simp only [execOp, e8]
          rfl
        · have d1 := hdep ⟨1, .data⟩ (by simp) rfl
          refine Inv.Step.run (v := .slice (some ⟨w5.heap.size, 0, none⟩) 1 1) (w' := w5.alloc (.cells #[.int .i64 U] 3)) ?_ ⟨_, Inv.over_put (by decide), hJ.s2⟩
          have e32 := (Inv.over_slot (a := a0) (ds := [31, 32, 33, 34, 35, 36, 37, 38, 6, 7]) (x := x) (k := 32) (by decide) (by rw [SZ]; decide)).trans (hJ.i1 d1)
          have hb : (Instr.buildSlice 23 1 #[(0, .int .i64 U)]).run Tryd.prog w5 = .ok (.slice (some ⟨w5.heap.size, 0, none⟩) 1 1) (w5.alloc (.cells #[.int .i64 U] 3)) := by kernel_rfl
          unfold execOp
          simp [e32, hb]
        · have d0 := hdep ⟨0, .data⟩ (by simp) rfl
          have d2 := hdep ⟨2, .data⟩ (by simp) rfl
          obtain ⟨b2, hb1, hb2, hb3⟩ := hJ.i2 d2
          have e31 := (Inv.over_slot (a := a0) (ds := [31, 32, 33, 34, 35, 36, 37, 38, 6, 7]) (x := x) (k := 31) (by decide) (by rw [SZ]; decide)).trans (hJ.i0 d0)
          have e33 := (Inv.over_slot (a := a0) (ds := [31, 32, 33, 34, 35, 36, 37, 38, 6, 7]) (x := x) (k := 33) (by decide) (by rw [SZ]; decide)).trans hb2
          refine ⟨wp_append_at (.tmp 31) (.tmp 33) 23 rfl w.heap.size 3 (.int .i64 0) 1 8 Tryd.underlying23 infoI3 rfl (by decide) (.slice pa i pc) i (natsI LP) e31 (hJ.a3 hdn) 1 (natsI [U]) (by rw [e33]; exact reads_row1 hb3) (by simp [natsI, Value.oneCell']) (by unfold maxLen; omega) (by omega) (Nat.le_trans RW4.out.size hJ.fr.size) ?_⟩
          intro ga gc w6 ho hg hb
          exact ⟨_, Inv.over_put (by decide), hJ.s3 HNE.out (fun k hk => Nat.lt_trans (HLT.out k (.inl hk)) HMBL.out) (fun k hk => Nat.lt_trans (HLT.out k (.inr hk)) HMBL.out) hdn ho hg hb⟩
        · refine Inv.Step.value (v := .slice qa i qc) ?_ ⟨_, Inv.over_put (by decide), hJ.s4⟩
          have e7 := (Inv.over_slot (a := a0) (ds := [31, 32, 33, 34, 35, 36, 37, 38, 6, 7]) (x := x) (k := 7) (by decide) (by rw [SZ]; decide)).trans (hJ.c7 (hJ.o9 hdn))
          simp only [execOp, e7]
          rfl
        · have e11 := (Inv.over_other (a := a0) (ds := [31, 32, 33, 34, 35, 36, 37, 38, 6, 7]) (x := x) (k := 11) (by decide)).trans E11
          refine Inv.Step.load_row _ _ rfl _ e11 _ _ _ _ (hJ.fr.heap HC4.out (fun h => by have := HLT.out _ h; omega)) Tryd.underlying60 rfl (by rw [infoMeas]; rfl) ?_
          exact ⟨_, Inv.over_put (by decide), hJ.s5⟩
        · have d5 := hdep ⟨5, .data⟩ (by simp) rfl
          refine Inv.Step.run (v := .slice (some ⟨w5.heap.size, 0, none⟩) 1 1) (w' := w5.alloc (.cells #[.int .i64 M1, .int .i64 M2] 60)) ?_ ⟨_, Inv.over_put (by decide), hJ.s6⟩
          have e36 := (Inv.over_slot (a := a0) (ds := [31, 32, 33, 34, 35, 36, 37, 38, 6, 7]) (x := x) (k := 36) (by decide) (by rw [SZ]; decide)).trans (hJ.i5 d5)
          have hb : (Instr.buildSlice 86 1 #[(0, .agg #[.int .i64 M1, .int .i64 M2])]).run Tryd.prog w5 = .ok (.slice (some ⟨w5.heap.size, 0, none⟩) 1 1) (w5.alloc (.cells #[.int .i64 M1, .int .i64 M2] 60)) := by kernel_rfl
          unfold execOp
          simp [e36, hb]
        · have d4 := hdep ⟨4, .data⟩ (by simp) rfl
          have d6 := hdep ⟨6, .data⟩ (by simp) rfl
          obtain ⟨b2, hb1, hb2, hb3⟩ := hJ.i6 d6
          have e35 := (Inv.over_slot (a := a0) (ds := [31, 32, 33, 34, 35, 36, 37, 38, 6, 7]) (x := x) (k := 35) (by decide) (by rw [SZ]; decide)).trans (hJ.i4 d4)
          have e37 := (Inv.over_slot (a := a0) (ds := [31, 32, 33, 34, 35, 36, 37, 38, 6, 7]) (x := x) (k := 37) (by decide) (by rw [SZ]; decide)).trans hb2
          refine ⟨wp_append_at (.tmp 35) (.tmp 37) 86 rfl w.heap.size 60 (.agg #[.int .i64 0, .int .i64 0]) 2 16 Tryd.underlying86 infoMeas3 rfl (by decide) (.slice qa i qc) i (msC LM) e35 (hJ.a7 hdn) 1 (msC [(M1, M2)]) (by rw [e37]; exact reads_row2 hb3) (by simp [msC, Value.oneCell']) (by unfold maxLen; omega) (by omega) (Nat.le_trans RW4.out.size hJ.fr.size) ?_⟩
          intro ga gc w6 ho hg hb
          exact ⟨_, Inv.over_put (by decide), hJ.s7 HNE.out (fun k hk => Nat.lt_trans (HLT.out k (.inl hk)) HMBL.out) (fun k hk => Nat.lt_trans (HLT.out k (.inr hk)) HMBL.out) hdn ho hg hb⟩
        · have d3 := hdep ⟨3, .data⟩ (by simp) rfl
          have d0 := hdep ⟨0, .phase⟩ (by simp) rfl
          refine Inv.Step.value (v := x 34) ?_ ⟨_, Inv.over_put (by decide), hJ.s8 d3 d0⟩
          have e34 := (Inv.over_slot (a := a0) (ds := [31, 32, 33, 34, 35, 36, 37, 38, 6, 7]) (x := x) (k := 34) (by decide) (by rw [SZ]; decide))
          simp only [execOp, e34]
          rfl
        · have d7 := hdep ⟨7, .data⟩ (by simp) rfl
          have d4 := hdep ⟨4, .phase⟩ (by simp) rfl
          refine Inv.Step.value (v := x 38) ?_ ⟨_, Inv.over_put (by decide), hJ.s9 d7 d4⟩
          have e38 := (Inv.over_slot (a := a0) (ds := [31, 32, 33, 34, 35, 36, 37, 38, 6, 7]) (x := x) (k := 38) (by decide) (by rw [SZ]; decide))
          simp only [execOp, e38]
          rfl
      · intro x dn w5 hJ hall
        obtain ⟨ga, gc, h34, ho6, hb6⟩ := hJ.b3 (hall 3 (by decide))
        obtain ⟨gb, gd, h38, ho7, hb7⟩ := hJ.b7 (hall 7 (by decide))
        have h6 := (hJ.d8 (hall 8 (by decide))).1
        have h7 := (hJ.d9 (hall 9 (by decide))).1
        have hne := hJ.ne (hall 3 (by decide)) (hall 7 (by decide))
        rw [h34] at h6
        rw [h38] at h7
        rw [h34, h38] at hne
        have HOW9 : Hid (w5.ownsRow w.heap.size 3 1 (.slice ga (i + 1) gc) (i + 1) (natsI (LP ++ [U]))) := Lib.hid (by simpa [natsI] using ho6)
        have HOM9 : Hid (w5.ownsRow w.heap.size 60 2 (.slice gb (i + 1) gd) (i + 1) (msC (LM ++ [(M1, M2)]))) := Lib.hid (by simpa [msC] using ho7)
        have HC9 := Lib.hid (hJ.fr.heap HC4.out (fun h => by have := HLT.out _ h; omega))
        have HRB9 := Lib.hid (hJ.fr.heap HRB4.out (fun h => by
          rcases h with h | h
          · exact HRN.out.1 h
          · exact HRN.out.2 h))
        have RW9 := Lib.hid (RW4.out.trans' hJ.fr (fun k hk _ => by
          rcases hk with hk | hk
          · exact (HOW4.out.lt k hk).1
          · exact (HOM4.out.lt k hk).1))
        have HNE9 := Lib.hid hne
        have HRBL : Hid (RB < w4.heap.size) := Lib.hid (Array.getElem?_eq_some_iff.1 HRB4.out).1
        have HRN9 : Hid ((Value.slice ga (i + 1) gc).ownBlock ≠ some RB ∧ (Value.slice gb (i + 1) gd).ownBlock ≠ some RB) := Lib.hid ⟨fun h => by
          rcases hb6 _ h with h2 | h2
          · exact HRN.out.1 h2
          · have := HRBL.out; omega, fun h => by
          rcases hb7 _ h with h2 | h2
          · exact HRN.out.2 h2
          · have := HRBL.out; omega⟩
        unfold Inv.over
        rw [← HA0.out]
        simp only [List.foldl_cons, List.foldl_nil, List.setIfInBounds_toArray, List.set_cons_zero, List.set_cons_succ]
        rw [h6, h7]
        clear hJ hall h34 h38 ho6 ho7 hb6 hb7 h6 h7 hne HA0 E6 E7 E8 E11 SZ HOW4 HOM4 HC4 HRB4 RW4
        generalize x 31 = x31
        generalize x 32 = x32
        generalize x 33 = x33
        generalize x 34 = x34
        generalize x 35 = x35
        generalize x 36 = x36
        generalize x 37 = x37
        generalize x 38 = x38
        obtain ⟨m0, m1⟩ := ce2 HC9.out
        have hsum : ((U : Int) + M1).toNat = U + M1 := by omega
        go_wp2_with fail
        go_roundw
        case rel =>
          refine ⟨i + 1, by omega, by go_num, Lib.hid ⟨?_, ?_, ?_, HNE9.out, HRB9.out, HRN9.out, RW9.out⟩⟩
          · rw [HSN.out]
            show _ = Value.int .i64 ((min (U + M1) 8193 : Nat) : Int)
            try rw [show ((min (U + M1) 8193 : Nat) : Int) = min ((U : Int) + M1) 8193 from by omega]
            try (congr 1; omega)
          · rw [HSN.out]; exact HOW9.out
          · rw [HSN.out]; exact HOM9.out
        case measure => first | (simp [intOf]; done) | (simp [intOf]; omega)

end Go.Proofs.YtjpkmaacalelcaaDoor
