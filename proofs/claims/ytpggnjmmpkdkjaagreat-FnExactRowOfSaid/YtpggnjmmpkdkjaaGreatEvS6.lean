/- The evaluator's quiet operations are what the model runs: structs and slices that are built or made. No condition. -/
import Derived.Test.YtpggnjmmpkdkjaaGreatEvS5
namespace Go.Proofs.YtpggnjmmpkdkjaaGreat.Ev
open Go Go.RowKit
set_option linter.unusedVariables false
set_option linter.unusedSimpArgs false
section
variable {E : Env} {w0 : World} {X : Nat → Prop} {st : St} {a : Act} {cx : Cx} {o : Oper} {av : AV}
theorem run_sizeOf' {P : Program} {t : TypeId} (h : (P.info? t).isSome = true) (w : World) : (sizeOf t).run P w = .ok (sizeP P t) w := by
  obtain ⟨i, hi⟩ := Option.isSome_iff_exists.1 h
  simp [sizeOf, typeInfo, program, hi, Sem.run, sizeP]
theorem run_places {P : Program} : ∀ (fs : List Field) (w : World), (∀ f ∈ fs, (P.info? f.type).isSome = true) → (fs.mapM fun f => (do pure (f.offset, ← sizeOf f.type) : Sem (Nat × Nat))).run P w = .ok (fs.map fun f => (f.offset, sizeP P f.type)) w
  | [], w, _ => rfl
  | f :: fs, w, h => by
    rw [List.mapM_cons]
    simp only [Sem.run_bind, run_sizeOf' (h f (by simp)), Result.andThen_ok, Sem.run_pure, run_places fs w fun f' hf' => h f' (by simp [hf']), List.map_cons]
theorem zcells_rep (cx : Cx) {vs : List Value} (h : vs.all Value.oneCell' = true) : ∀ d, CellsRep cx d 0 (vs.map .v) vs := fun d => vcells_rep cx d 0 h
theorem Rel.q_build (h : Rel E w0 X st a cx) (t : TypeId) (parts : Array (Nat × Operand)) (ho : o.op = .build t parts) (hok : partsOk E.P t = true) {z cs : List Cell} (hz : zeroCellsA E t = some z) (hf : fillA E (get st) (placeOfPart E t) z parts.toList = some cs) : Goal E o a cx (.p true cs) := by
  obtain ⟨i, zv, hi, hzv, hall, rfl⟩ := zero_spec hz
  have hmap : (parts.map fun (i, x) => (i, a.eval x)).toList = parts.toList.map fun (i, x) => (i, a.eval x) := by simp
  have hpl : ∃ d, E.P.underlying t = some d ∧ ∃ pl : Nat → Option (Nat × Nat), (∀ n, placeOfPart E t n = pl n) ∧ ((∃ fs, d = .struct fs ∧ pl = fun n => (fs.map fun f => (f.offset, sizeP E.P f.type))[n]?) ∨ ∃ n e, d = .array n e ∧ (E.P.info? e).isSome = true ∧ pl = fun i => some (i * sizeP E.P e, sizeP E.P e)) := by
    unfold partsOk at hok
    split at hok
    · rename_i fs hu
      refine ⟨_, hu, _, fun n => ?_, .inl ⟨fs, rfl, rfl⟩⟩
      simp only [placeOfPart, hu, Array.getElem?_map]
      cases fs[n]? <;> rfl
    · rename_i n e hu
      exact ⟨_, hu, _, fun n => by simp only [placeOfPart, hu], .inr ⟨n, e, rfl, hok, rfl⟩⟩
    · cases hok
  obtain ⟨d, hu, pl, hpl, hd⟩ := hpl
  have hf' : fillA E (get st) pl (zv.cells.toList.map .v) parts.toList = some cs := by
    have : placeOfPart E t = pl := funext hpl
    rw [← this]; exact hf
  obtain ⟨vs', h1, h2, h3⟩ := h.fill pl hf' (zcells_rep cx hall) (vcells_noOwn _)
  refine Goal.same (v := .agg vs'.toArray) ?_ (fun d => ⟨vs', rfl, h2 d⟩) (p_noOwner h3)
  have hzr : (zeroValue t).run E.P cx.w = .ok zv cx.w := by simp [zeroValue, typeInfo, program, hi, hzv, Sem.run]
  simp only [Array.toArray_toList] at h1
  rcases hd with ⟨fs, rfl, rfl⟩ | ⟨n, e, rfl, he, rfl⟩
  · have hall' : ∀ f ∈ fs.toList, (E.P.info? f.type).isSome = true := by
      unfold partsOk at hok; rw [hu] at hok; exact fun f hf => List.all_eq_true.1 hok f hf
    have hm : (fs.mapM fun f => (do pure (f.offset, ← sizeOf f.type) : Sem (Nat × Nat))).run E.P cx.w = .ok (fs.map fun f => (f.offset, sizeP E.P f.type)) cx.w := by
      rw [Array.mapM_eq_mapM_toList, Sem.run_map, run_places _ _ hall', Result.andThen_ok]
      congr 1
      apply Array.ext'; simp
    simp only [execOp, ho, Instr.build, Sem.run_bind, hzr, Result.andThen_ok, run_underlying hu, hm, hmap, h1, Sem.run_pure]
  · simp only [execOp, ho, Instr.build, Sem.run_bind, hzr, Result.andThen_ok, run_underlying hu, run_sizeOf' he, hmap, h1, Sem.run_pure]
/-! ### New slices -/
theorem newSlice {e : TypeId} {rs : List (List D)} {v : Value} {w' : World} (hm0 : 0 < (kinds cx.P e).length) (hb : Below cx.w.heap.size cx.w w') {flat : List Value} (ho : w'.ownsRow 0 e (kinds cx.P e).length v rs.length flat)
    (hr : ∀ i j k, i < rs.length → (kinds cx.P e)[j]? = some k → ∃ u, flat[i * (kinds cx.P e).length + j]? = some u ∧ RepD cx.P cx.w (Forb cx) k ((rs.getD i []).getD j .j) u)
    (hn : ∀ b, v.ownBlock = some b → cx.w.heap.size ≤ b) : New cx w' (.p false [.sl 1 e rs]) v := by
  have hone : v.oneCell' = true := by
    rcases ho.2 with h | ⟨g, cap, cur, rfl, _⟩
    · rw [h.1]; rfl
    · rfl
  have hlt : ∀ b, v.ownBlock = some b → b < w'.heap.size := fun b hb' => (ho.lt b hb').2
  refine ⟨hb, fun h => by simp [owner, isOwn] at h, fun _ => ⟨fun b => if v.ownBlock = some b then some 1 else none, fun b j hj => ?_, fun d => ⟨fun _ => some (e, v), none, ?_⟩⟩⟩
  · simp only at hj
    split at hj
    · rename_i hh; exact ⟨hn b hh, hlt b hh⟩
    · cases hj
  · show CellsRep _ d 0 [.sl 1 e rs] [v]
    refine ⟨rfl, by simpa using hone, fun j c u h1 h2 => ?_⟩
    cases j with
    | succ j => simp at h1
    | zero =>
      obtain rfl := Option.some.inj h1
      obtain rfl := Option.some.inj h2
      refine ⟨⟨hm0, flat, ho, fun i j k hi hk => ?_⟩, by simp [cxd], fun b hb' => by simp [cxd, hb'], fun hh => absurd rfl hh⟩
      obtain ⟨u, h3, h4⟩ := hr i j k hi hk
      refine ⟨u, h3, h4.change fun b hbl hf => ⟨hb.block b hbl, fun hf' => hf ?_⟩⟩
      rcases hf' with hN | ⟨p, hp⟩
      · exact .inl hN
      · have : ¬ v.ownBlock = some b := fun hh => by have := hn b hh; omega
        simp only [cxd, if_neg this] at hp
        exact .inr ⟨p, hp⟩
theorem packCell_rep {k : K} {c : Cell} {dt : D} {u : Value} {d j : Nat} (hp : packCell k c = some dt) (hno : isOwn c = false) (hc : CellRep cx d j c u) : RepD cx.P cx.w (Forb cx) k dt u := by
  cases k with
  | int k =>
    cases c <;> first | (cases hp; done) | skip
    rename_i x
    cases x <;> first | (cases hp; done) | skip
    rename_i k' n
    simp only [packCell] at hp
    by_cases hk : k = k'
    · subst hk
      simp only [decide_true, cond_true] at hp
      obtain rfl := Option.some.inj hp
      have : u = .int k n := hc
      rw [this]; exact .int k (.i n)
    · simp only [hk, decide_false, cond_false] at hp; cases hp
  | bool =>
    cases c <;> first | (cases hp; done) | skip
    rename_i x
    cases x <;> first | (cases hp; done) | skip
    rename_i b
    obtain rfl := Option.some.inj hp
    have : u = .bool b := hc
    rw [this]; exact .bool (.b b)
  | str =>
    cases c <;> first | (cases hp; done) | skip
    rename_i x
    cases x <;> first | (cases hp; done) | skip
    rename_i s
    obtain rfl := Option.some.inj hp
    have : u = .string s := hc
    rw [this]; exact .str (.s s)
  | sl e =>
    cases c <;> first | (cases hp; done) | skip
    · rename_i x
      cases x <;> first | (cases hp; done) | skip
      rename_i a n c
      cases a <;> first | (cases hp; done) | skip
      cases n <;> first | (cases hp; done) | skip
      cases c <;> first | (cases hp; done) | skip
      have hp' : (bif Nat.blt e 1000000000 then some (D.l []) else none) = some dt := hp
      cases hb : Nat.blt e 1000000000 with
      | false => rw [hb] at hp'; cases hp'
      | true =>
        rw [hb] at hp'
        obtain rfl := Option.some.inj hp'
        have : u = .slice none 0 0 := hc
        rw [this]; exact .nil e _ none 0 rfl (.inl hb)
    · rename_i ow e' xs
      cases ow with
      | succ n => simp [isOwn] at hno
      | zero =>
        simp only [packCell] at hp
        cases hb : Nat.beq e e' with
        | false => rw [hb] at hp; cases hp
        | true =>
          rw [hb] at hp
          obtain rfl := Option.some.inj hp
          obtain rfl := Nat.eq_of_beq_eq_true hb
          exact hc
theorem packCells_get : ∀ {ks : List K} {cs : List Cell} {ds : List D}, packCells ks cs = some ds → cs.length = ks.length ∧ ds.length = ks.length ∧ ∀ (j : Nat) (k : K) (c : Cell), ks[j]? = some k → cs[j]? = some c → packCell k c = some (ds.getD j .j)
  | [], [], ds, h => by obtain rfl := Option.some.inj h; exact ⟨rfl, rfl, fun j k c h1 _ => by simp at h1⟩
  | [], _ :: _, _, h => by cases h
  | _ :: _, [], _, h => by cases h
  | k :: ks, c :: cs, ds, h => by
    simp only [packCells] at h
    split at h
    · rename_i d ds' h1 h2
      obtain rfl := Option.some.inj h
      obtain ⟨h3, h4, h5⟩ := packCells_get h2
      refine ⟨by simp [h3], by simp [h4], fun j k' c' hk hc => ?_⟩
      cases j with
      | zero => obtain rfl := Option.some.inj hk; obtain rfl := Option.some.inj hc; exact h1
      | succ j => exact h5 j k' c' (by simpa using hk) (by simpa using hc)
    · cases h
theorem packRows_get {ks : List K} : ∀ {n : Nat} {cs : List Cell} {rs : List (List D)}, packRows ks n cs = some rs → rs.length = n ∧ ∀ i, i < n → packCells ks ((cs.drop (i * ks.length)).take ks.length) = some (rs.getD i [])
  | 0, cs, rs, h => by obtain rfl := Option.some.inj h; exact ⟨rfl, fun i hi => by omega⟩
  | n + 1, cs, rs, h => by
    simp only [packRows] at h
    split at h
    · rename_i r rs' h1 h2
      obtain rfl := Option.some.inj h
      obtain ⟨h3, h4⟩ := packRows_get h2
      refine ⟨by simp [h3], fun i hi => ?_⟩
      cases i with
      | zero => simpa using h1
      | succ i =>
        have := h4 i (by omega)
        rw [List.drop_drop] at this
        rw [show (i + 1) * ks.length = ks.length + i * ks.length by rw [Nat.succ_mul]; omega]
        simpa using this
    · cases h
theorem flat_get {α : Type} (l : List α) (hl : 0 < l.length) : ∀ (n k : Nat), k < n * l.length → ((List.replicate n l).flatten)[k]? = l[k % l.length]?
  | 0, k, h => by simp at h
  | n + 1, k, h => by
    rw [List.replicate_succ, List.flatten_cons]
    by_cases hk : k < l.length
    · rw [List.getElem?_append_left hk, Nat.mod_eq_of_lt hk]
    · rw [List.getElem?_append_right (Nat.le_of_not_lt hk), flat_get l hl n (k - l.length) (by rw [Nat.succ_mul] at h; omega)]
      rw [Nat.mod_eq_sub_mod (Nat.le_of_not_lt hk)]
theorem made_eq (z : Array Value) (hz : 0 < z.size) (n : Nat) : (Array.range (n * z.size)).map (fun i => z[i % z.size]!) = ((List.replicate n z.toList).flatten).toArray := by
  apply Array.ext'
  apply List.ext_getElem?
  intro k
  by_cases hk : k < n * z.size
  · have h1 := flat_get z.toList (by simpa using hz) n k (by simpa using hk)
    rw [List.toList_toArray, h1]
    have hm : k % z.size < z.size := Nat.mod_lt _ hz
    simp [hk, hm]
  · rw [List.getElem?_eq_none (by simpa using Nat.le_of_not_lt hk), List.getElem?_eq_none (by simp [List.length_flatten]; omega)]
theorem Rel.q_buildSlice (h : Rel E w0 X st a cx) (t e : TypeId) (len : Nat) (parts : Array (Nat × Operand)) (ho : o.op = .buildSlice t len parts) (ht : E.P.underlying t = some (.slice e)) {z cs : List Cell} (hz : zeroCellsA E e = some z)
    (hb : (Nat.beq (kinds E.P e).length (sizeP E.P e) && decide (0 < sizeP E.P e) && decide (len * sizeP E.P e ≤ 16777216) && Nat.beq z.length (sizeP E.P e)) = true)
    (hf : fillA E (get st) (fun i => some (i * sizeP E.P e, sizeP E.P e)) ((List.replicate len z).flatten) parts.toList = some cs) {rs : List (List D)} (hp : packRows (kinds E.P e) len cs = some rs) : Goal E o a cx (.p false [.sl 1 e rs]) := by
  simp only [Bool.and_eq_true, decide_eq_true_eq] at hb
  obtain ⟨⟨⟨hb1, hb2⟩, hb3⟩, hb4⟩ := hb
  have hks : (kinds E.P e).length = sizeP E.P e := Nat.eq_of_beq_eq_true hb1
  have hzl : z.length = sizeP E.P e := Nat.eq_of_beq_eq_true hb4
  obtain ⟨i, zv, hi, hzv, hall, rfl⟩ := zero_spec hz
  have hzs : zv.cells.size = sizeP E.P e := by simpa using hzl
  have hzr : (zeroValue e).run E.P cx.w = .ok zv cx.w := by simp [zeroValue, typeInfo, program, hi, hzv, Sem.run]
  have hflat : (List.replicate len (zv.cells.toList.map Cell.v)).flatten = ((List.replicate len zv.cells.toList).flatten).map Cell.v := by
    rw [List.map_flatten]; simp
  rw [hflat] at hf
  have hall' : ((List.replicate len zv.cells.toList).flatten).all Value.oneCell' = true := by
    rw [List.all_eq_true]; intro x hx
    obtain ⟨l, hl, hx⟩ := List.mem_flatten.1 hx
    rw [(List.mem_replicate.1 hl).2] at hx
    exact List.all_eq_true.1 hall x hx
  obtain ⟨vs', h1, h2, h3⟩ := h.fill _ hf (zcells_rep cx hall') (vcells_noOwn _)
  have hlen' : vs'.length = len * sizeP E.P e := by
    have hA : ∀ {parts : List (Nat × Operand)} {cells cells' : List Cell} {pl}, fillA E (get st) pl cells parts = some cells' → cells'.length = cells.length := by
      intro parts
      induction parts with
      | nil => intro cells cells' pl hf; obtain rfl := Option.some.inj hf; rfl
      | cons p parts ih =>
        intro cells cells' pl hf
        obtain ⟨i, x⟩ := p
        simp only [fillA] at hf
        split at hf
        · rename_i off n cs hp hc
          cases hb : (Nat.beq cs.length n && decide (off + n ≤ cells.length)) with
          | false => rw [hb] at hf; cases hf
          | true => rw [hb, cond_true] at hf; rw [ih hf, setAll_length]
        · cases hf
    rw [← (h2 0).1, hA hf]; simp [hzs]
  obtain ⟨hr1, hr2⟩ := packRows_get hp
  have hmade : (Array.range (len * sizeP E.P e)).map (fun i => zv.cells[i % zv.cells.size]!) = ((List.replicate len zv.cells.toList).flatten).toArray := by
    rw [← hzs]; exact made_eq zv.cells (by omega) len
  have hmap : (parts.map fun (i, x) => (i, a.eval x)).toList = parts.toList.map fun (i, x) => (i, a.eval x) := by simp
  have hrun : (execOp a.eval o).run E.P cx.w = .ok (.value (.slice (some ⟨cx.w.heap.size, 0, none⟩) len len)) (cx.w.alloc (.cells vs'.toArray e)) := by
    by_cases h0 : len * sizeP E.P e = 0
    · have hl0 : len = 0 := by rcases Nat.mul_eq_zero.1 h0 with h | h <;> omega
      have hmade0 : (Array.range (len * sizeP E.P e)).map (fun i => (#[] : Array Value)[i % (#[] : Array Value).size]!) = ((List.replicate len zv.cells.toList).flatten).toArray := by
        rw [h0, hl0]; simp
      have hnb : ¬ (len * sizeP E.P e > 2 ^ 24) := by omega
      simp only [execOp, ho, Instr.buildSlice, Sem.run_bind, run_underlying ht, Result.andThen_ok, run_sizeOf (P := E.P) (t := e) (by omega), if_neg hnb, Sem.run_pure, if_pos h0, hmade0, hmap, h1, newRow, newObj, Sem.run, World.alloc_eq]
    · have hnb : ¬ (len * sizeP E.P e > 2 ^ 24) := by omega
      simp only [execOp, ho, Instr.buildSlice, Sem.run_bind, run_underlying ht, Result.andThen_ok, run_sizeOf (P := E.P) (t := e) (by omega), if_neg hnb, Sem.run_pure, if_neg h0, hzr, hmade, hmap, h1, newRow, newObj, Sem.run, World.alloc_eq]
  refine .inl ⟨_, _, hrun, newSlice (by rw [h.P, hks]; exact hb2) (Below.one _ _) (flat := vs') ⟨?_, .inr ⟨cx.w.heap.size, len, vs'.toArray, ?_, Nat.zero_le _, heap_alloc_new _ _, ?_, ?_, ?_, ?_⟩⟩ (fun i j k hi hk => ?_) (fun b hb => ?_)⟩
  · rw [hr1, h.P, hks, hlen']
  · rw [hr1]
  · rw [hr1]; exact Nat.le_refl _
  · have : len ≤ len * sizeP E.P e := Nat.le_mul_of_pos_right _ hb2
    unfold maxLen; omega
  · rw [h.P, hks]; simpa using hlen'
  · rw [hr1, h.P, hks, ← hlen']; simp
  · rw [hr1] at hi
    rw [h.P] at hk ⊢
    obtain ⟨h4, h5, h6⟩ := packCells_get (hr2 i hi)
    have hj : j < (kinds E.P e).length := (List.getElem?_eq_some_iff.1 hk).1
    have hpos : i * (kinds E.P e).length + j < vs'.length := by
      rw [hlen', ← hks]
      have : (i + 1) * (kinds E.P e).length ≤ len * (kinds E.P e).length := Nat.mul_le_mul_right _ hi
      rw [Nat.succ_mul] at this; omega
    have hposc : i * (kinds E.P e).length + j < cs.length := by rw [(h2 0).1]; exact hpos
    refine ⟨vs'[i * (kinds E.P e).length + j], List.getElem?_eq_getElem hpos, ?_⟩
    have hcj : ((cs.drop (i * (kinds E.P e).length)).take (kinds E.P e).length)[j]? = some cs[i * (kinds E.P e).length + j] := by
      rw [List.getElem?_take, if_pos hj, List.getElem?_drop, List.getElem?_eq_getElem hposc]
    have := packCell_rep (h6 j k _ hk hcj) (h3 _ (List.getElem_mem hposc)) ((h2 0).2.2 _ _ _ (List.getElem?_eq_getElem hposc) (List.getElem?_eq_getElem hpos))
    rw [h.P] at this
    exact this
  · simp [Value.ownBlock] at hb; omega
theorem Rel.q_makeSlice (h : Rel E w0 X st a cx) (t e : TypeId) (x y : Operand) (ho : o.op = .makeSlice t x y) (ht : E.P.underlying t = some (.slice e)) {l c : Int} (hx : plainV (Ev.opnd E (get st) x) = some (.int .i64 l)) (hy : plainV (Ev.opnd E (get st) y) = some (.int .i64 c)) {i : TypeInfo} (hi : E.P.info? e = some i)
    {z : List Cell} (hz : zeroCellsA E e = some z) (hb : (Nat.beq (kinds E.P e).length i.size && decide (0 < i.size) && decide (0 < i.bytes)) = true) {row : List D} (hp : packCells (kinds E.P e) z = some row)
    (hc : (decide (0 ≤ l) && decide (l ≤ c) && decide (c * (i.bytes : Int) ≤ 140737488355328)) = true) : Goal E o a cx (.p false [.sl 1 e (List.replicate l.toNat row)]) := by
  simp only [Bool.and_eq_true, decide_eq_true_eq] at hb hc
  obtain ⟨⟨hb1, hb2⟩, hb3⟩ := hb
  obtain ⟨⟨h0, h1⟩, h2⟩ := hc
  have hks : (kinds E.P e).length = i.size := Nat.eq_of_beq_eq_true hb1
  obtain ⟨i', zv, hi', hzv, hall, rfl⟩ := zero_spec hz
  obtain rfl := Option.some.inj (hi.symm.trans hi')
  obtain ⟨h4, h5, h6⟩ := packCells_get hp
  have hzs : zv.cells.size = i.size := by rw [← hks, ← h4]; simp
  obtain ⟨c', rfl⟩ : ∃ c' : Nat, c = (c' : Int) := ⟨c.toNat, (Int.toNat_of_nonneg (by omega)).symm⟩
  obtain ⟨l', rfl⟩ : ∃ l' : Nat, l = (l' : Int) := ⟨l.toNat, (Int.toNat_of_nonneg h0).symm⟩
  have hcb : c' * i.bytes ≤ 140737488355328 := by
    have h7 : ((c' * i.bytes : Nat) : Int) ≤ 140737488355328 := by rw [Int.natCast_mul]; exact h2
    omega
  have hcle : c' ≤ 140737488355328 := Nat.le_trans (Nat.le_mul_of_pos_right _ hb3) hcb
  have hlc : l' ≤ c' := by omega
  have hmade : (Array.range (c' * i.size)).map (fun j => zv.cells[j % zv.cells.size]!) = ((List.replicate c' zv.cells.toList).flatten).toArray := by
    rw [← hzs]; exact made_eq zv.cells (by omega) c'
  have hrun : (execOp a.eval o).run E.P cx.w = .ok (.value (.slice (some ⟨cx.w.heap.size, 0, none⟩) l' c')) (cx.w.alloc (.cells ((List.replicate c' zv.cells.toList).flatten).toArray e)) := by
    have hbc : (i.bytes : Int) * (c' : Int) ≤ 281474976710656 := by
      have : c' * i.bytes = i.bytes * c' := Nat.mul_comm _ _
      have h7 : ((i.bytes * c' : Nat) : Int) ≤ 281474976710656 := by omega
      rwa [Int.natCast_mul] at h7
    have hr := run_make (P := E.P) cx.w t e i zv ht hi hzv .i64 .i64 (l' : Int) (c' : Int) h0 h1 hbc (by omega)
    simp only [Int.toNat_natCast] at hr
    have hm : madeCells zv.cells (c' * i.size) = ((List.replicate c' zv.cells.toList).flatten).toArray := hmade
    rw [hm] at hr
    simp only [execOp, ho, h.plain hx, h.plain hy, Sem.run_bind, hr, Result.andThen_ok, Sem.run_pure]
  have hfl : ((List.replicate c' zv.cells.toList).flatten).length = c' * i.size := by simp [hzs]
  refine .inl ⟨_, _, hrun, newSlice (by rw [h.P, hks]; exact hb2) (Below.one _ _) (flat := ((List.replicate c' zv.cells.toList).flatten).take (l' * i.size)) ⟨?_, .inr ⟨cx.w.heap.size, c', _, ?_, Nat.zero_le _, heap_alloc_new _ _, ?_, ?_, ?_, ?_⟩⟩ (fun q j k hq hk => ?_) (fun b hb => ?_)⟩
  · rw [List.length_take, hfl, h.P, hks]
    rw [Nat.min_eq_left (Nat.mul_le_mul_right _ hlc)]; simp
  · simp
  · simpa using hlc
  · unfold maxLen; omega
  · rw [h.P, hks]; simp [hzs]
  · rw [h.P, hks]; simp
  · have hq' : q < l' := by simpa using hq
    rw [h.P] at hk ⊢
    have hj : j < (kinds E.P e).length := (List.getElem?_eq_some_iff.1 hk).1
    have hj' : j < i.size := hks ▸ hj
    have hlt : q * i.size + j < l' * i.size := by
      have : (q + 1) * i.size ≤ l' * i.size := Nat.mul_le_mul_right _ hq'
      rw [Nat.succ_mul] at this; omega
    have hjz : j < zv.cells.toList.length := by simpa [hzs] using hj'
    refine ⟨zv.cells.toList[j], ?_, ?_⟩
    · rw [hks, List.getElem?_take, if_pos hlt, flat_get _ (by simpa [hzs] using hb2) c' _ (by simpa [hzs] using Nat.lt_of_lt_of_le hlt (Nat.mul_le_mul_right _ hlc))]
      have : (q * i.size + j) % zv.cells.toList.length = j := by
        rw [show zv.cells.toList.length = i.size by simpa using hzs, Nat.mul_comm, Nat.mul_add_mod, Nat.mod_eq_of_lt hj']
      rw [this, List.getElem?_eq_getElem hjz]
    · have hrow : ((List.replicate l' row).getD q []) = row := by
        rw [List.getD_eq_getElem?_getD, List.getElem?_replicate, if_pos hq']; rfl
      simp only [Int.toNat_natCast, hrow]
      have := packCell_rep (cx := cx) (u := zv.cells.toList[j]) (d := 0) (j := 0) (h6 j k (.v zv.cells.toList[j]) hk (by rw [List.getElem?_map, List.getElem?_eq_getElem hjz]; rfl)) rfl rfl
      rw [h.P] at this
      exact this
  · simp [Value.ownBlock] at hb; omega
end
end Go.Proofs.YtpggnjmmpkdkjaaGreat.Ev
