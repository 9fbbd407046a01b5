/- The evaluator's quiet operations are what the model runs: indices into strings and arrays, what is built and made. No condition. -/
import Derived.Test.YtpggnjmmpkdkjaaGreatEvS4
namespace Go.Proofs.YtpggnjmmpkdkjaaGreat.Ev
open Go Go.RowKit
set_option linter.unusedVariables false
set_option linter.unusedSimpArgs false
section
variable {E : Env} {w0 : World} {X : Nat → Prop} {st : St} {a : Act} {cx : Cx} {o : Oper} {av : AV}
theorem bytes_get (s : ByteArray) (i : Nat) (h : i < s.size) : s.data.toList.getD i 0 = s[i] := by
  rw [List.getD_eq_getElem?_getD, List.getElem?_eq_getElem (by simpa using h)]; rfl
theorem Rel.q_idxstr (h : Rel E w0 X st a cx) (t : TypeId) (x ix : Operand) (ho : o.op = .index t x ix) {s : ByteArray} {kd : IntKind} {i : Int} (hx : plainV (Ev.opnd E (get st) x) = some (.string s)) (hi : plainV (Ev.opnd E (get st) ix) = some (.int kd i)) (ht : E.P.underlying t = some .string)
    (hb : (decide (0 ≤ i) && decide (i < (s.size : Int))) = true) : Goal E o a cx (.p false [.v (.int .u8 (bt s i))]) := by
  simp only [Bool.and_eq_true, decide_eq_true_eq] at hb
  refine Goal.plain ?_ rfl
  simp only [execOp, ho, h.plain hx, h.plain hi, Sem.run_bind, run_index_string (P := E.P) cx.w t s kd i ht, dif_pos hb, Result.andThen_ok, Sem.run_pure]
  unfold bt; rw [bytes_get s i.toNat (by omega)]
theorem intsOf_spec {k : IntKind} : ∀ {l : List Value} {ns : List Int}, intsOf k l = some ns → l = ns.map (.int k)
  | [], ns, h => by obtain rfl := Option.some.inj h; rfl
  | x :: l, ns, h => by
    cases x <;> first | (cases h; done) | skip
    rename_i k' n
    simp only [intsOf] at h
    by_cases hk : k = k'
    · subst hk
      simp only [decide_true, cond_true] at h
      obtain ⟨ns', h1, rfl⟩ := Option.map_eq_some_iff.1 h
      rw [intsOf_spec h1]; rfl
    · simp only [hk, decide_false, cond_false] at h; cases h
theorem strsOf_spec : ∀ {l : List Value} {ns : List ByteArray}, strsOf l = some ns → l = ns.map .string
  | [], ns, h => by obtain rfl := Option.some.inj h; rfl
  | x :: l, ns, h => by
    cases x <;> first | (cases h; done) | skip
    simp only [strsOf] at h
    obtain ⟨ns', h1, rfl⟩ := Option.map_eq_some_iff.1 h
    rw [strsOf_spec h1]; rfl
theorem Rel.q_idxarr (h : Rel E w0 X st a cx) (t e : TypeId) (x ix : Operand) (ho : o.op = .index t x ix) {cs : Array Value} {kd : IntKind} {i : Int} {n : Nat} (hx : plainV (Ev.opnd E (get st) x) = some (.agg cs)) (hi : plainV (Ev.opnd E (get st) ix) = some (.int kd i)) (ht : E.P.underlying t = some (.array n e))
    (hn : cs.size = n) (hs : sizeP E.P e = 1) (hk : knownP E.P e = true) (ha : isAggP E.P e = false) {v : Value} (hb : (decide (0 ≤ i) && decide (i < (n : Int))) = true) (hv : cs.toList[i.toNat]? = some v) (h1 : v.oneCell' = true) : Goal E o a cx (.p false [.v v]) := by
  simp only [Bool.and_eq_true, decide_eq_true_eq] at hb
  refine Goal.plain ?_ h1
  have hv' : cs[i.toNat]? = some v := by simpa using hv
  simp only [execOp, ho, h.plain hx, h.plain hi, Instr.index, asIntOf, Sem.run_bind, Sem.run_pure, Result.andThen_ok, run_underlying ht, Sem.run_ite, if_pos hb, run_sizeOf (P := E.P) (t := e) (by omega), hs, Nat.mul_one, part, isAgg_run hk, ha, Bool.false_eq_true, if_false, hv']
theorem Rel.q_slicestr (h : Rel E w0 X st a cx) (t : TypeId) (x : Operand) (lo hi : Option Operand) (ho : o.op = .slice t x lo hi none) {s : ByteArray} {l u : Int} (hx : plainV (Ev.opnd E (get st) x) = some (.string s)) (ht : E.P.underlying t = some .string)
    (hl : (lo = none ∧ l = 0) ∨ ∃ y k, lo = some y ∧ plainV (Ev.opnd E (get st) y) = some (.int k l)) (hu : (hi = none ∧ u = (s.size : Int)) ∨ ∃ y k, hi = some y ∧ plainV (Ev.opnd E (get st) y) = some (.int k u))
    (hb : (decide (0 ≤ l) && decide (l ≤ u) && decide (u ≤ (s.size : Int))) = true) : Goal E o a cx (.p false [.v (.string (s.extract l.toNat u.toNat))]) := by
  simp only [Bool.and_eq_true, decide_eq_true_eq] at hb
  obtain ⟨⟨h0, h1⟩, h2⟩ := hb
  refine Goal.plain ?_ rfl
  have eu : (u.toNat : Int) = u := Int.toNat_of_nonneg (by omega)
  rcases hl with ⟨rfl, rfl⟩ | ⟨y, k, rfl, hy⟩ <;> rcases hu with ⟨rfl, rfl⟩ | ⟨z, k', rfl, hz⟩
  · simp [execOp, ho, h.plain hx, run_sliceAt_string (P := E.P) cx.w t _ _ _ _ ht, Instr.slice, run_underlying ht, Instr.sliceBounds]
  · simp [execOp, ho, h.plain hx, h.plain hz, run_sliceAt_string (P := E.P) cx.w t _ _ _ _ ht, Instr.slice, run_underlying ht, Instr.sliceBounds, run_sliceBound (P := E.P) cx.w k' u s.size _ (by omega) h2]
  · simp [execOp, ho, h.plain hx, h.plain hy, run_sliceAt_string (P := E.P) cx.w t _ _ _ _ ht, Instr.slice, run_underlying ht, Instr.sliceBounds, run_sliceBound (P := E.P) cx.w k l s.size _ h0 h1]
  · simp [execOp, ho, h.plain hx, h.plain hy, h.plain hz, run_sliceAt_string (P := E.P) cx.w t _ _ _ _ ht, Instr.slice, run_underlying ht, Instr.sliceBounds, run_sliceBound (P := E.P) cx.w k' u s.size _ (by omega) h2, run_sliceBound (P := E.P) cx.w k l u.toNat _ h0 (by omega)]
/-! ### What is built -/
def setAllV (vs : List Value) (o : Nat) : List Value → List Value
  | [] => vs
  | v :: r => setAllV (vs.set o v) (o + 1) r
theorem foldl_set (off : Nat) : ∀ (ws : List Value) (k : Nat) (cells : Array Value), (ws.zipIdx k).foldl (fun (cs : Array Value) x => cs.setIfInBounds (off + x.2) x.1) cells = (setAllV cells.toList (off + k) ws).toArray
  | [], k, cells => by simp [setAllV]
  | w :: ws, k, cells => by
    rw [List.zipIdx_cons, List.foldl_cons, foldl_set off ws (k + 1)]
    simp [setAllV, Nat.add_assoc]
theorem CellsRep.set {d : Nat} {cs : List Cell} {vs : List Value} (h : CellsRep cx d 0 cs vs) (i : Nat) {c : Cell} {v : Value} (hc : ∀ t j, CellRep cx t j c v) (h1 : v.oneCell' = true) : CellsRep cx d 0 (cs.set i c) (vs.set i v) := by
  refine ⟨by simp [h.1], fun u hu => ?_, fun j c' v' hj1 hj2 => ?_⟩
  · rcases List.mem_or_eq_of_mem_set hu with hu | rfl
    · exact h.2.1 u hu
    · exact h1
  · rw [List.getElem?_set] at hj1 hj2
    by_cases e : i = j
    · subst e
      rw [if_pos rfl] at hj1 hj2
      split at hj1
      · obtain rfl := Option.some.inj hj1
        split at hj2
        · obtain rfl := Option.some.inj hj2; exact hc _ _
        · cases hj2
      · cases hj1
    · rw [if_neg e] at hj1 hj2; exact h.2.2 j c' v' hj1 hj2
theorem CellsRep.setAll {d : Nat} : ∀ {ws : List Value} {new : List Cell} {cs : List Cell} {vs : List Value} (off : Nat), CellsRep cx d 0 cs vs → CellsRep cx 0 0 new ws → (∀ c ∈ new, isOwn c = false) → CellsRep cx d 0 (setAll cs off new) (setAllV vs off ws)
  | [], [], cs, vs, off, h, _, _ => h
  | [], _ :: _, _, _, _, _, hn, _ => by have := hn.1; simp at this
  | _ :: _, [], _, _, _, _, hn, _ => by have := hn.1; simp at this
  | w :: ws, c :: new, cs, vs, off, h, hn, hno =>
    CellsRep.setAll (off + 1) (h.set off (c := c) (v := w) (fun t j => (hn.2.2 0 c w rfl rfl).moved (hno c (by simp))) (hn.2.1 w (by simp)))
      ⟨by have := hn.1; simpa using this, fun v hv => hn.2.1 v (by simp [hv]), fun j c' v' h1 h2 => (hn.2.2 (j + 1) c' v' (by simpa using h1) (by simpa using h2)).moved (hno c' (by simp [List.mem_of_getElem? h1]))⟩ (fun c' hc' => hno c' (by simp [hc']))
theorem setAll_length : ∀ (new cs : List Cell) (off : Nat), (setAll cs off new).length = cs.length
  | [], cs, off => rfl
  | c :: new, cs, off => by simp [setAll, setAll_length new]
theorem setAll_noOwn : ∀ {new cs : List Cell} (off : Nat), (∀ c ∈ cs, isOwn c = false) → (∀ c ∈ new, isOwn c = false) → ∀ c ∈ setAll cs off new, isOwn c = false
  | [], cs, off, h, _ => h
  | c :: new, cs, off, h, hn => setAll_noOwn (off + 1) (fun c' hc' => by
      rcases List.mem_or_eq_of_mem_set hc' with hc' | rfl
      · exact h c' hc'
      · exact hn _ (by simp)) (fun c' hc' => hn c' (by simp [hc']))
theorem Rel.fill (h : Rel E w0 X st a cx) (pl : Nat → Option (Nat × Nat)) : ∀ {parts : List (Nat × Operand)} {cells cells' : List Cell} {vs : List Value}, fillA E (get st) pl cells parts = some cells' → (∀ d, CellsRep cx d 0 cells vs) → (∀ c ∈ cells, isOwn c = false) →
    ∃ vs' : List Value, Instr.fill pl vs.toArray (parts.map fun (i, x) => (i, a.eval x)) = some vs'.toArray ∧ (∀ d, CellsRep cx d 0 cells' vs') ∧ ∀ c ∈ cells', isOwn c = false
  | [], cells, cells', vs, hf, hr, hno => by obtain rfl := Option.some.inj hf; exact ⟨vs, rfl, hr, hno⟩
  | (i, x) :: parts, cells, cells', vs, hf, hr, hno => by
    simp only [fillA] at hf
    split at hf
    · rename_i off n cs hp hc
      cases hb : (Nat.beq cs.length n && decide (off + n ≤ cells.length)) with
      | false => rw [hb] at hf; cases hf
      | true =>
        rw [hb, cond_true] at hf
        simp only [Bool.and_eq_true, decide_eq_true_eq] at hb
        obtain ⟨ws, hv, hrw⟩ := cellsOf_rep hc (fun d => h.opnd d x)
        have hnw := opnd_cells_noOwn E _ h.glob x hc
        have hlen : ws.length = n := by rw [← (hrw 0).1]; exact Nat.eq_of_beq_eq_true hb.1
        obtain ⟨vs', h1, h2, h3⟩ := Rel.fill h pl (vs := setAllV vs off ws) hf (fun d => (hr d).setAll off (hrw 0) hnw) (setAll_noOwn off hno hnw)
        refine ⟨vs', ?_, h2, h3⟩
        simp only [List.map_cons, Instr.fill, hp, hv]
        have hl := (hr 0).1
        have h4 : ws.toArray.zipIdx.foldl (fun (cs : Array Value) x => cs.setIfInBounds (off + x.2) x.1) vs.toArray = (setAllV vs off ws).toArray := by
          have := foldl_set off ws 0 vs.toArray
          simp only [Nat.add_zero] at this
          rw [← this]; simp
        rw [if_neg (by simp [hlen]; omega)]
        exact (congrArg (fun q => Instr.fill pl q (parts.map fun (i, x) => (i, a.eval x))) h4).trans h1
    · cases hf
end
end Go.Proofs.YtpggnjmmpkdkjaaGreat.Ev
