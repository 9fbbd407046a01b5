/- The evaluator is right: expressions, loads and stores. No condition. -/
import Derived.Test.YtpanhndkcnojpaaDoorEvA
import Derived.Laws.BytesString
import Derived.Lib.ConvBytes
/- The evaluator's quiet operations are what the model runs: structs and slices that are built or made. No condition. -/
namespace Go.Proofs.YtpanhndkcnojpaaDoor.Ev
open Go Go.RowKit
set_option linter.unusedVariables false
set_option linter.unusedSimpArgs false
section
variable {E : Env} {w0 : World} {X : Nat → Prop} {st : St} {a : Act} {cx : Cx} {o : Oper} {av : AV}
theorem run_sizeOf' {P : Program} {t : TypeId} (h : (P.info? t).isSome = true) (w : World) : (sizeOf t).run P w = .ok (sizeP P t) w := by
  obtain ⟨i, hi⟩ := Option.isSome_iff_exists.1 h
  simp [sizeOf, typeInfo, program, hi, Sem.run, sizeP]
theorem run_places {P : Program} : ∀ (fs : List Field) (w : World), (∀ f ∈ fs, (P.info? f.type).isSome = true) → (fs.mapM fun f => (do pure (f.offset, ← sizeOf f.type) : Sem (Nat × Nat))).run P w = .ok (fs.map fun f => (f.offset, sizeP P f.type)) w
  | [], w, _ => rfl
  | f :: fs, w, h => by
    rw [List.mapM_cons]
    simp only [Sem.run_bind, run_sizeOf' (h f (by simp)), Result.andThen_ok, Sem.run_pure, run_places fs w fun f' hf' => h f' (by simp [hf']), List.map_cons]
theorem zcells_rep (cx : Cx) {vs : List Value} (h : vs.all Value.oneCell' = true) : ∀ d, CellsRep cx d 0 (vs.map .v) vs := fun d => vcells_rep cx d 0 h
theorem Rel.q_build (h : Rel E w0 X st a cx) (t : TypeId) (parts : Array (Nat × Operand)) (ho : o.op = .build t parts) (hok : partsOk E.P t = true) {z cs : List Cell} (hz : zeroCellsA E t = some z) (hf : fillA E (get st) (placeOfPart E t) z parts.toList = some cs) : Goal E o a cx (.p true cs) := by
  obtain ⟨i, zv, hi, hzv, hall, rfl⟩ := zero_spec hz
  have hmap : (parts.map fun (i, x) => (i, a.eval x)).toList = parts.toList.map fun (i, x) => (i, a.eval x) := by simp
  have hpl : ∃ d, E.P.underlying t = some d ∧ ∃ pl : Nat → Option (Nat × Nat), (∀ n, placeOfPart E t n = pl n) ∧ ((∃ fs, d = .struct fs ∧ pl = fun n => (fs.map fun f => (f.offset, sizeP E.P f.type))[n]?) ∨ ∃ n e, d = .array n e ∧ (E.P.info? e).isSome = true ∧ pl = fun i => some (i * sizeP E.P e, sizeP E.P e)) := by
    unfold partsOk at hok
    split at hok
    · rename_i fs hu
      refine ⟨_, hu, _, fun n => ?_, .inl ⟨fs, rfl, rfl⟩⟩
      simp only [placeOfPart, hu, Array.getElem?_map]
      cases fs[n]? <;> rfl
    · rename_i n e hu
      exact ⟨_, hu, _, fun n => by simp only [placeOfPart, hu], .inr ⟨n, e, rfl, hok, rfl⟩⟩
    · cases hok
  obtain ⟨d, hu, pl, hpl, hd⟩ := hpl
  have hf' : fillA E (get st) pl (zv.cells.toList.map .v) parts.toList = some cs := by
    have : placeOfPart E t = pl := funext hpl
    rw [← this]; exact hf
  obtain ⟨vs', h1, h2, h3⟩ := h.fill pl hf' (zcells_rep cx hall) (vcells_noOwn _)
  refine Goal.same (v := .agg vs'.toArray) ?_ (fun d => ⟨vs', rfl, h2 d⟩) (p_noOwner h3)
  have hzr : (zeroValue t).run E.P cx.w = .ok zv cx.w := by simp [zeroValue, typeInfo, program, hi, hzv, Sem.run]
  simp only [Array.toArray_toList] at h1
  rcases hd with ⟨fs, rfl, rfl⟩ | ⟨n, e, rfl, he, rfl⟩
  · have hall' : ∀ f ∈ fs.toList, (E.P.info? f.type).isSome = true := by
      unfold partsOk at hok; rw [hu] at hok; exact fun f hf => List.all_eq_true.1 hok f hf
    have hm : (fs.mapM fun f => (do pure (f.offset, ← sizeOf f.type) : Sem (Nat × Nat))).run E.P cx.w = .ok (fs.map fun f => (f.offset, sizeP E.P f.type)) cx.w := by
      rw [Array.mapM_eq_mapM_toList, Sem.run_map, run_places _ _ hall', Result.andThen_ok]
      congr 1
      apply Array.ext'; simp
    simp only [execOp, ho, Instr.build, Sem.run_bind, hzr, Result.andThen_ok, run_underlying hu, hm, hmap, h1, Sem.run_pure]
  · simp only [execOp, ho, Instr.build, Sem.run_bind, hzr, Result.andThen_ok, run_underlying hu, run_sizeOf' he, hmap, h1, Sem.run_pure]
/-! ### New slices -/
theorem newSlice {e : TypeId} {rs : List (List D)} {v : Value} {w' : World} (hm0 : 0 < (kinds cx.P e).length) (hb : Below cx.w.heap.size cx.w w') {flat : List Value} (ho : w'.ownsRow 0 e (kinds cx.P e).length v rs.length flat)
    (hr : ∀ i j k, i < rs.length → (kinds cx.P e)[j]? = some k → ∃ u, flat[i * (kinds cx.P e).length + j]? = some u ∧ RepD cx.P cx.w (Forb cx) k ((rs.getD i []).getD j .j) u)
    (hn : ∀ b, v.ownBlock = some b → cx.w.heap.size ≤ b) : New cx w' (.p false [.sl 1 e rs]) v := by
  have hone : v.oneCell' = true := by
    rcases ho.2 with h | ⟨g, cap, cur, rfl, _⟩
    · rw [h.1]; rfl
    · rfl
  have hlt : ∀ b, v.ownBlock = some b → b < w'.heap.size := fun b hb' => (ho.lt b hb').2
  refine ⟨hb, fun h => by simp [owner, isOwn] at h, fun _ => ⟨fun b => if v.ownBlock = some b then some 1 else none, fun b j hj => ?_, fun d => ⟨fun _ => some (e, v), none, ?_⟩⟩⟩
  · simp only at hj
    split at hj
    · rename_i hh; exact ⟨hn b hh, hlt b hh⟩
    · cases hj
  · show CellsRep _ d 0 [.sl 1 e rs] [v]
    refine ⟨rfl, by simpa using hone, fun j c u h1 h2 => ?_⟩
    cases j with
    | succ j => simp at h1
    | zero =>
      obtain rfl := Option.some.inj h1
      obtain rfl := Option.some.inj h2
      refine ⟨⟨hm0, flat, ho, fun i j k hi hk => ?_⟩, by simp [cxd], fun b hb' => by simp [cxd, hb'], fun hh => absurd rfl hh⟩
      obtain ⟨u, h3, h4⟩ := hr i j k hi hk
      refine ⟨u, h3, h4.change fun b hbl hf => ⟨hb.block b hbl, fun hf' => hf ?_⟩⟩
      rcases hf' with hN | ⟨p, hp⟩
      · exact .inl hN
      · have : ¬ v.ownBlock = some b := fun hh => by have := hn b hh; omega
        simp only [cxd, if_neg this] at hp
        exact .inr ⟨p, hp⟩
theorem packCell_rep {k : K} {c : Cell} {dt : D} {u : Value} {d j : Nat} (hp : packCell k c = some dt) (hno : isOwn c = false) (hc : CellRep cx d j c u) : RepD cx.P cx.w (Forb cx) k dt u := by
  cases k with
  | int k =>
    cases c <;> first | (cases hp; done) | skip
    rename_i x
    cases x <;> first | (cases hp; done) | skip
    rename_i k' n
    simp only [packCell] at hp
    by_cases hk : k = k'
    · subst hk
      simp only [decide_true, cond_true] at hp
      obtain rfl := Option.some.inj hp
      have : u = .int k n := hc
      rw [this]; exact .int k (.i n)
    · simp only [hk, decide_false, cond_false] at hp; cases hp
  | bool =>
    cases c <;> first | (cases hp; done) | skip
    rename_i x
    cases x <;> first | (cases hp; done) | skip
    rename_i b
    obtain rfl := Option.some.inj hp
    have : u = .bool b := hc
    rw [this]; exact .bool (.b b)
  | str =>
    cases c <;> first | (cases hp; done) | skip
    rename_i x
    cases x <;> first | (cases hp; done) | skip
    rename_i s
    obtain rfl := Option.some.inj hp
    have : u = .string s := hc
    rw [this]; exact .str (.s s)
  | sl e =>
    cases c <;> first | (cases hp; done) | skip
    · rename_i x
      cases x <;> first | (cases hp; done) | skip
      rename_i a n c
      cases a <;> first | (cases hp; done) | skip
      cases n <;> first | (cases hp; done) | skip
      cases c <;> first | (cases hp; done) | skip
      have hp' : (bif Nat.blt e 1000000000 then some (D.l []) else none) = some dt := hp
      cases hb : Nat.blt e 1000000000 with
      | false => rw [hb] at hp'; cases hp'
      | true =>
        rw [hb] at hp'
        obtain rfl := Option.some.inj hp'
        have : u = .slice none 0 0 := hc
        rw [this]; exact .nil e _ none 0 rfl (.inl hb)
    · rename_i ow e' xs
      cases ow with
      | succ n => simp [isOwn] at hno
      | zero =>
        simp only [packCell] at hp
        cases hb : Nat.beq e e' with
        | false => rw [hb] at hp; cases hp
        | true =>
          rw [hb] at hp
          obtain rfl := Option.some.inj hp
          obtain rfl := Nat.eq_of_beq_eq_true hb
          exact hc
theorem packCells_get : ∀ {ks : List K} {cs : List Cell} {ds : List D}, packCells ks cs = some ds → cs.length = ks.length ∧ ds.length = ks.length ∧ ∀ (j : Nat) (k : K) (c : Cell), ks[j]? = some k → cs[j]? = some c → packCell k c = some (ds.getD j .j)
  | [], [], ds, h => by obtain rfl := Option.some.inj h; exact ⟨rfl, rfl, fun j k c h1 _ => by simp at h1⟩
  | [], _ :: _, _, h => by cases h
  | _ :: _, [], _, h => by cases h
  | k :: ks, c :: cs, ds, h => by
    simp only [packCells] at h
    split at h
    · rename_i d ds' h1 h2
      obtain rfl := Option.some.inj h
      obtain ⟨h3, h4, h5⟩ := packCells_get h2
      refine ⟨by simp [h3], by simp [h4], fun j k' c' hk hc => ?_⟩
      cases j with
      | zero => obtain rfl := Option.some.inj hk; obtain rfl := Option.some.inj hc; exact h1
      | succ j => exact h5 j k' c' (by simpa using hk) (by simpa using hc)
    · cases h
theorem packRows_get {ks : List K} : ∀ {n : Nat} {cs : List Cell} {rs : List (List D)}, packRows ks n cs = some rs → rs.length = n ∧ ∀ i, i < n → packCells ks ((cs.drop (i * ks.length)).take ks.length) = some (rs.getD i [])
  | 0, cs, rs, h => by obtain rfl := Option.some.inj h; exact ⟨rfl, fun i hi => by omega⟩
  | n + 1, cs, rs, h => by
    simp only [packRows] at h
    split at h
    · rename_i r rs' h1 h2
      obtain rfl := Option.some.inj h
      obtain ⟨h3, h4⟩ := packRows_get h2
      refine ⟨by simp [h3], fun i hi => ?_⟩
      cases i with
      | zero => simpa using h1
      | succ i =>
        have := h4 i (by omega)
        rw [List.drop_drop] at this
        rw [show (i + 1) * ks.length = ks.length + i * ks.length by rw [Nat.succ_mul]; omega]
        simpa using this
    · cases h
theorem flat_get {α : Type} (l : List α) (hl : 0 < l.length) : ∀ (n k : Nat), k < n * l.length → ((List.replicate n l).flatten)[k]? = l[k % l.length]?
  | 0, k, h => by simp at h
  | n + 1, k, h => by
    rw [List.replicate_succ, List.flatten_cons]
    by_cases hk : k < l.length
    · rw [List.getElem?_append_left hk, Nat.mod_eq_of_lt hk]
    · rw [List.getElem?_append_right (Nat.le_of_not_lt hk), flat_get l hl n (k - l.length) (by rw [Nat.succ_mul] at h; omega)]
      rw [Nat.mod_eq_sub_mod (Nat.le_of_not_lt hk)]
theorem made_eq (z : Array Value) (hz : 0 < z.size) (n : Nat) : (Array.range (n * z.size)).map (fun i => z[i % z.size]!) = ((List.replicate n z.toList).flatten).toArray := by
  apply Array.ext'
  apply List.ext_getElem?
  intro k
  by_cases hk : k < n * z.size
  · have h1 := flat_get z.toList (by simpa using hz) n k (by simpa using hk)
    rw [List.toList_toArray, h1]
    have hm : k % z.size < z.size := Nat.mod_lt _ hz
    simp [hk, hm]
  · rw [List.getElem?_eq_none (by simpa using Nat.le_of_not_lt hk), List.getElem?_eq_none (by simp [List.length_flatten]; omega)]
theorem Rel.q_buildSlice (h : Rel E w0 X st a cx) (t e : TypeId) (len : Nat) (parts : Array (Nat × Operand)) (ho : o.op = .buildSlice t len parts) (ht : E.P.underlying t = some (.slice e)) {z cs : List Cell} (hz : zeroCellsA E e = some z)
    (hb : (Nat.beq (kinds E.P e).length (sizeP E.P e) && decide (0 < sizeP E.P e) && decide (len * sizeP E.P e ≤ 16777216) && Nat.beq z.length (sizeP E.P e)) = true)
    (hf : fillA E (get st) (fun i => some (i * sizeP E.P e, sizeP E.P e)) ((List.replicate len z).flatten) parts.toList = some cs) {rs : List (List D)} (hp : packRows (kinds E.P e) len cs = some rs) : Goal E o a cx (.p false [.sl 1 e rs]) := by
  simp only [Bool.and_eq_true, decide_eq_true_eq] at hb
  obtain ⟨⟨⟨hb1, hb2⟩, hb3⟩, hb4⟩ := hb
  have hks : (kinds E.P e).length = sizeP E.P e := Nat.eq_of_beq_eq_true hb1
  have hzl : z.length = sizeP E.P e := Nat.eq_of_beq_eq_true hb4
  obtain ⟨i, zv, hi, hzv, hall, rfl⟩ := zero_spec hz
  have hzs : zv.cells.size = sizeP E.P e := by simpa using hzl
  have hzr : (zeroValue e).run E.P cx.w = .ok zv cx.w := by simp [zeroValue, typeInfo, program, hi, hzv, Sem.run]
  have hflat : (List.replicate len (zv.cells.toList.map Cell.v)).flatten = ((List.replicate len zv.cells.toList).flatten).map Cell.v := by
    rw [List.map_flatten]; simp
  rw [hflat] at hf
  have hall' : ((List.replicate len zv.cells.toList).flatten).all Value.oneCell' = true := by
    rw [List.all_eq_true]; intro x hx
    obtain ⟨l, hl, hx⟩ := List.mem_flatten.1 hx
    rw [(List.mem_replicate.1 hl).2] at hx
    exact List.all_eq_true.1 hall x hx
  obtain ⟨vs', h1, h2, h3⟩ := h.fill _ hf (zcells_rep cx hall') (vcells_noOwn _)
  have hlen' : vs'.length = len * sizeP E.P e := by
    have hA : ∀ {parts : List (Nat × Operand)} {cells cells' : List Cell} {pl}, fillA E (get st) pl cells parts = some cells' → cells'.length = cells.length := by
      intro parts
      induction parts with
      | nil => intro cells cells' pl hf; obtain rfl := Option.some.inj hf; rfl
      | cons p parts ih =>
        intro cells cells' pl hf
        obtain ⟨i, x⟩ := p
        simp only [fillA] at hf
        split at hf
        · rename_i off n cs hp hc
          cases hb : (Nat.beq cs.length n && decide (off + n ≤ cells.length)) with
          | false => rw [hb] at hf; cases hf
          | true => rw [hb, cond_true] at hf; rw [ih hf, setAll_length]
        · cases hf
    rw [← (h2 0).1, hA hf]; simp [hzs]
  obtain ⟨hr1, hr2⟩ := packRows_get hp
  have hmade : (Array.range (len * sizeP E.P e)).map (fun i => zv.cells[i % zv.cells.size]!) = ((List.replicate len zv.cells.toList).flatten).toArray := by
    rw [← hzs]; exact made_eq zv.cells (by omega) len
  have hmap : (parts.map fun (i, x) => (i, a.eval x)).toList = parts.toList.map fun (i, x) => (i, a.eval x) := by simp
  have hrun : (execOp a.eval o).run E.P cx.w = .ok (.value (.slice (some ⟨cx.w.heap.size, 0, none⟩) len len)) (cx.w.alloc (.cells vs'.toArray e)) := by
    by_cases h0 : len * sizeP E.P e = 0
    · have hl0 : len = 0 := by rcases Nat.mul_eq_zero.1 h0 with h | h <;> omega
      have hmade0 : (Array.range (len * sizeP E.P e)).map (fun i => (#[] : Array Value)[i % (#[] : Array Value).size]!) = ((List.replicate len zv.cells.toList).flatten).toArray := by
        rw [h0, hl0]; simp
      have hnb : ¬ (len * sizeP E.P e > 2 ^ 24) := by omega
      simp only [execOp, ho, Instr.buildSlice, Sem.run_bind, run_underlying ht, Result.andThen_ok, run_sizeOf (P := E.P) (t := e) (by omega), if_neg hnb, Sem.run_pure, if_pos h0, hmade0, hmap, h1, newRow, newObj, Sem.run, World.alloc_eq]
    · have hnb : ¬ (len * sizeP E.P e > 2 ^ 24) := by omega
      simp only [execOp, ho, Instr.buildSlice, Sem.run_bind, run_underlying ht, Result.andThen_ok, run_sizeOf (P := E.P) (t := e) (by omega), if_neg hnb, Sem.run_pure, if_neg h0, hzr, hmade, hmap, h1, newRow, newObj, Sem.run, World.alloc_eq]
  refine .inl ⟨_, _, hrun, newSlice (by rw [h.P, hks]; exact hb2) (Below.one _ _) (flat := vs') ⟨?_, .inr ⟨cx.w.heap.size, len, vs'.toArray, ?_, Nat.zero_le _, heap_alloc_new _ _, ?_, ?_, ?_, ?_⟩⟩ (fun i j k hi hk => ?_) (fun b hb => ?_)⟩
  · rw [hr1, h.P, hks, hlen']
  · rw [hr1]
  · rw [hr1]; exact Nat.le_refl _
  · have : len ≤ len * sizeP E.P e := Nat.le_mul_of_pos_right _ hb2
    unfold maxLen; omega
  · rw [h.P, hks]; simpa using hlen'
  · rw [hr1, h.P, hks, ← hlen']; simp
  · rw [hr1] at hi
    rw [h.P] at hk ⊢
    obtain ⟨h4, h5, h6⟩ := packCells_get (hr2 i hi)
    have hj : j < (kinds E.P e).length := (List.getElem?_eq_some_iff.1 hk).1
    have hpos : i * (kinds E.P e).length + j < vs'.length := by
      rw [hlen', ← hks]
      have : (i + 1) * (kinds E.P e).length ≤ len * (kinds E.P e).length := Nat.mul_le_mul_right _ hi
      rw [Nat.succ_mul] at this; omega
    have hposc : i * (kinds E.P e).length + j < cs.length := by rw [(h2 0).1]; exact hpos
    refine ⟨vs'[i * (kinds E.P e).length + j], List.getElem?_eq_getElem hpos, ?_⟩
    have hcj : ((cs.drop (i * (kinds E.P e).length)).take (kinds E.P e).length)[j]? = some cs[i * (kinds E.P e).length + j] := by
      rw [List.getElem?_take, if_pos hj, List.getElem?_drop, List.getElem?_eq_getElem hposc]
    have := packCell_rep (h6 j k _ hk hcj) (h3 _ (List.getElem_mem hposc)) ((h2 0).2.2 _ _ _ (List.getElem?_eq_getElem hposc) (List.getElem?_eq_getElem hpos))
    rw [h.P] at this
    exact this
  · simp [Value.ownBlock] at hb; omega
theorem Rel.q_makeSlice (h : Rel E w0 X st a cx) (t e : TypeId) (x y : Operand) (ho : o.op = .makeSlice t x y) (ht : E.P.underlying t = some (.slice e)) {l c : Int} (hx : plainV (Ev.opnd E (get st) x) = some (.int .i64 l)) (hy : plainV (Ev.opnd E (get st) y) = some (.int .i64 c)) {i : TypeInfo} (hi : E.P.info? e = some i)
    {z : List Cell} (hz : zeroCellsA E e = some z) (hb : (Nat.beq (kinds E.P e).length i.size && decide (0 < i.size) && decide (0 < i.bytes)) = true) {row : List D} (hp : packCells (kinds E.P e) z = some row)
    (hc : (decide (0 ≤ l) && decide (l ≤ c) && decide (c * (i.bytes : Int) ≤ 140737488355328)) = true) : Goal E o a cx (.p false [.sl 1 e (List.replicate l.toNat row)]) := by
  simp only [Bool.and_eq_true, decide_eq_true_eq] at hb hc
  obtain ⟨⟨hb1, hb2⟩, hb3⟩ := hb
  obtain ⟨⟨h0, h1⟩, h2⟩ := hc
  have hks : (kinds E.P e).length = i.size := Nat.eq_of_beq_eq_true hb1
  obtain ⟨i', zv, hi', hzv, hall, rfl⟩ := zero_spec hz
  obtain rfl := Option.some.inj (hi.symm.trans hi')
  obtain ⟨h4, h5, h6⟩ := packCells_get hp
  have hzs : zv.cells.size = i.size := by rw [← hks, ← h4]; simp
  obtain ⟨c', rfl⟩ : ∃ c' : Nat, c = (c' : Int) := ⟨c.toNat, (Int.toNat_of_nonneg (by omega)).symm⟩
  obtain ⟨l', rfl⟩ : ∃ l' : Nat, l = (l' : Int) := ⟨l.toNat, (Int.toNat_of_nonneg h0).symm⟩
  have hcb : c' * i.bytes ≤ 140737488355328 := by
    have h7 : ((c' * i.bytes : Nat) : Int) ≤ 140737488355328 := by rw [Int.natCast_mul]; exact h2
    omega
  have hcle : c' ≤ 140737488355328 := Nat.le_trans (Nat.le_mul_of_pos_right _ hb3) hcb
  have hlc : l' ≤ c' := by omega
  have hmade : (Array.range (c' * i.size)).map (fun j => zv.cells[j % zv.cells.size]!) = ((List.replicate c' zv.cells.toList).flatten).toArray := by
    rw [← hzs]; exact made_eq zv.cells (by omega) c'
  have hrun : (execOp a.eval o).run E.P cx.w = .ok (.value (.slice (some ⟨cx.w.heap.size, 0, none⟩) l' c')) (cx.w.alloc (.cells ((List.replicate c' zv.cells.toList).flatten).toArray e)) := by
    have hbc : (i.bytes : Int) * (c' : Int) ≤ 281474976710656 := by
      have : c' * i.bytes = i.bytes * c' := Nat.mul_comm _ _
      have h7 : ((i.bytes * c' : Nat) : Int) ≤ 281474976710656 := by omega
      rwa [Int.natCast_mul] at h7
    have hr := run_make (P := E.P) cx.w t e i zv ht hi hzv .i64 .i64 (l' : Int) (c' : Int) h0 h1 hbc (by omega)
    simp only [Int.toNat_natCast] at hr
    have hm : madeCells zv.cells (c' * i.size) = ((List.replicate c' zv.cells.toList).flatten).toArray := hmade
    rw [hm] at hr
    simp only [execOp, ho, h.plain hx, h.plain hy, Sem.run_bind, hr, Result.andThen_ok, Sem.run_pure]
  have hfl : ((List.replicate c' zv.cells.toList).flatten).length = c' * i.size := by simp [hzs]
  refine .inl ⟨_, _, hrun, newSlice (by rw [h.P, hks]; exact hb2) (Below.one _ _) (flat := ((List.replicate c' zv.cells.toList).flatten).take (l' * i.size)) ⟨?_, .inr ⟨cx.w.heap.size, c', _, ?_, Nat.zero_le _, heap_alloc_new _ _, ?_, ?_, ?_, ?_⟩⟩ (fun q j k hq hk => ?_) (fun b hb => ?_)⟩
  · rw [List.length_take, hfl, h.P, hks]
    rw [Nat.min_eq_left (Nat.mul_le_mul_right _ hlc)]; simp
  · simp
  · simpa using hlc
  · unfold maxLen; omega
  · rw [h.P, hks]; simp [hzs]
  · rw [h.P, hks]; simp
  · have hq' : q < l' := by simpa using hq
    rw [h.P] at hk ⊢
    have hj : j < (kinds E.P e).length := (List.getElem?_eq_some_iff.1 hk).1
    have hj' : j < i.size := hks ▸ hj
    have hlt : q * i.size + j < l' * i.size := by
      have : (q + 1) * i.size ≤ l' * i.size := Nat.mul_le_mul_right _ hq'
      rw [Nat.succ_mul] at this; omega
    have hjz : j < zv.cells.toList.length := by simpa [hzs] using hj'
    refine ⟨zv.cells.toList[j], ?_, ?_⟩
    · rw [hks, List.getElem?_take, if_pos hlt, flat_get _ (by simpa [hzs] using hb2) c' _ (by simpa [hzs] using Nat.lt_of_lt_of_le hlt (Nat.mul_le_mul_right _ hlc))]
      have : (q * i.size + j) % zv.cells.toList.length = j := by
        rw [show zv.cells.toList.length = i.size by simpa using hzs, Nat.mul_comm, Nat.mul_add_mod, Nat.mod_eq_of_lt hj']
      rw [this, List.getElem?_eq_getElem hjz]
    · have hrow : ((List.replicate l' row).getD q []) = row := by
        rw [List.getD_eq_getElem?_getD, List.getElem?_replicate, if_pos hq']; rfl
      simp only [Int.toNat_natCast, hrow]
      have := packCell_rep (cx := cx) (u := zv.cells.toList[j]) (d := 0) (j := 0) (h6 j k (.v zv.cells.toList[j]) hk (by rw [List.getElem?_map, List.getElem?_eq_getElem hjz]; rfl)) rfl rfl
      rw [h.P] at this
      exact this
  · simp [Value.ownBlock] at hb; omega
end
end Go.Proofs.YtpanhndkcnojpaaDoor.Ev
/- A call that only reads and makes: what its contract gives. No condition. -/
namespace Go.Proofs.YtpanhndkcnojpaaDoor.Ev
open Go Go.RowKit
set_option linter.unusedVariables false
set_option linter.unusedSimpArgs false
def RowRep (P : Program) (w : World) (F : Nat → Prop) (ks : List K) (ds : List D) (vs : List Value) : Prop :=
  vs.length = ks.length ∧ ∀ j k u, ks[j]? = some k → vs[j]? = some u → RepD P w F k (ds.getD j .j) u
def ArgRep (P : Program) (w : World) (F : Nat → Prop) (pt : Nat × List K) (ds : List D) (v : Value) : Prop :=
  match pt.1 with
  | 0 => RowRep P w F pt.2 ds [v]
  | 1 => ∃ vs : List Value, v = .agg vs.toArray ∧ RowRep P w F pt.2 ds vs
  | 2 => ∃ (b off : Nat) (vs : List Value), v = .pointer (some ⟨b, off, none⟩) ∧ 0 < pt.2.length ∧ ¬ F b ∧ (∀ j u, vs[j]? = some u → w.cell? ⟨b, off + j, none⟩ = some u) ∧ RowRep P w F pt.2 ds vs
  | 3 => ∃ e, pt.2 = [.sl e] ∧ Owns P w F e (ds.getD 0 .j).rows v
  | 4 => ∃ (b : Nat) (vs : List Value) (t : TypeId), v = .pointer (some ⟨b, 0, none⟩) ∧ w.heap[b]? = some (.cells vs.toArray t (0, 0)) ∧ RowRep P w F pt.2 ds vs
  | 7 => (∃ e, pt.2 = [.sl e]) ∧ v = .slice none 0 0
  | f + 10 => pt.2 = [.bool] ∧ v = .func (.func f) #[] #[]
  | _ => False
def ArgsRep (P : Program) (w : World) (F : Nat → Prop) : List (Nat × List K) → List D → List Value → Prop
  | [], _, [] => True
  | pt :: ps, ds, v :: vs => ArgRep P w F pt ds v ∧ ArgsRep P w F ps (ds.drop pt.2.length) vs
  | _, _, _ => False
/-- The memory that a call may write: that of the slices that are handed in to be written. -/
def WB (f : Nat) (v : Value) (b : Nat) : Prop := (f = 3 ∧ v.ownBlock = some b) ∨ (f = 4 ∧ v = .pointer (some ⟨b, 0, none⟩))
theorem WB.isW {f : Nat} {v : Value} {b : Nat} (h : WB f v b) : isW f = true := by
  rcases h with ⟨rfl, _⟩ | ⟨rfl, _⟩ <;> rfl
def MutB : List (Nat × List K) → List Value → Nat → Prop
  | pt :: ps, v :: vs, b => WB pt.1 v b ∨ MutB ps vs b
  | _, _, _ => False
def OutsRep (P : Program) (w : World) (F : Nat → Prop) (t : List D) : List (Nat × List K) → List Value → Nat → Prop
  | pt :: ps, v :: vs, i => if pt.1 = 3 then (∃ e, pt.2 = [.sl e] ∧ Owns P w F e (t.getD i .j).rows v) ∧ OutsRep P w F t ps vs (i + 1) else if pt.1 = 4 then (∃ (b : Nat) (us : List Value) (ty : TypeId), v = .pointer (some ⟨b, 0, none⟩) ∧ w.heap[b]? = some (.cells us.toArray ty (0, 0)) ∧ RowRep P w (fun b' => F b' ∨ b' = b) pt.2 (t.drop i) us) ∧ OutsRep P w F t ps vs (i + pt.2.length) else OutsRep P w F t ps vs i
  | _, _, _ => True
def cxr (P : Program) (w' : World) (own : Nat → Option Nat) (N : Nat → Prop) (pl' : Nat → Option (TypeId × Value)) (bx' : Option Nat) : Cx :=
  { P := P, w := w', O := fun b => (own b).map fun j => (0, j), N := N, pl := fun d j => if d = 0 then pl' j else none, bx := fun d => if d = 0 then bx' else none, A := fun _ => undef }
def flagsOk (rt : List (Bool × List (K × Nat))) : Bool := rt.all fun p => p.2.all fun k => Nat.ble k.2 1
structure ResOk (P : Program) (w w' : World) (N : Nat → Prop) (sp : Spec) (args : List Value) (t : List D) (v : Value) : Prop where
  kept : KeptX (MutB sp.pt args) w w'
  res : ∃ own pl' bx', (∀ b j, own b = some j → w.heap.size ≤ b ∧ b < w'.heap.size) ∧ AVRep (cxr P w' own N pl' bx') 0 (mkR sp.rt t) v
  outs : OutsRep P w' N t sp.pt args (countR sp.rt)
structure SpecOk (P : Program) (gl : Nat → Option (List Value)) (f : FuncId) (sp : Spec) : Prop where
  flags : flagsOk sp.rt = true
  does : ∀ (w : World) (N : Nat → Prop) (args : List Value) (ds t : List D), (∀ b, N b → b < w.heap.size ∧ ¬ MutB sp.pt args b) → GlobsAt gl w (fun b => MutB sp.pt args b ∨ N b) → ArgsRep P w (fun b => N b ∨ MutB sp.pt args b) sp.pt ds args → sp.G ds = some t →
    ((∃ fn, P.funcs[f]? = some fn ∧ fn.body.isSome = true ∧ (fn.name == "runtime.NumGoroutine") = false) ∧ Calls P f args.toArray w fun e w' => ∃ v, e = .returned v ∧ ResOk P w w' N sp args t v) ∨
    (isMut sp = false ∧ ∃ v, (callFunc f args.toArray).run P w = .ok (.value v) w ∧ ResOk P w w N sp args t v)
theorem SpecOk.calls {P : Program} {gl : Nat → Option (List Value)} {f : FuncId} {sp : Spec} (h : SpecOk P gl f sp) {fn : Func} (hfn : P.funcs[f]? = some fn) (hb : fn.body.isSome = true) {w : World} {N : Nat → Prop} {args : List Value} {ds t : List D} (h1 : ∀ b, N b → b < w.heap.size ∧ ¬ MutB sp.pt args b) (hg : GlobsAt gl w (fun b => MutB sp.pt args b ∨ N b)) (h2 : ArgsRep P w (fun b => N b ∨ MutB sp.pt args b) sp.pt ds args) (h3 : sp.G ds = some t) :
    Calls P f args.toArray w fun e w' => ∃ v, e = .returned v ∧ ResOk P w w' N sp args t v := by
  rcases h.does w N args ds t h1 hg h2 h3 with h | ⟨_, v, hr, _⟩
  · exact h.2
  · exfalso
    obtain ⟨b, hb⟩ := Option.isSome_iff_exists.1 hb
    simp only [callFunc, program, bind, Sem.bind, Sem.run, hfn, hb, Option.isNone_some] at hr
    split at hr <;> cases hr
theorem Owns.rep {P : Program} {w : World} {F F' : Nat → Prop} {e : TypeId} {xs : List (List D)} {v : Value} (h : Owns P w F e xs v) (hF : ∀ b, ¬ F' b) : RepD P w F' (.sl e) (.l xs) v := by
  obtain ⟨hm, flat, hf, hr⟩ := h
  rcases hf.2 with ⟨rfl, h0⟩ | ⟨g, cap, cur, rfl, _, hh, hnc, hcm, hsz, htake⟩
  · exact .nil e _ none 0 (List.eq_nil_of_length_eq_zero h0) (.inr hm)
  · by_cases h0 : xs.length = 0
    · rw [h0]; exact .nil e _ _ cap (List.eq_nil_of_length_eq_zero h0) (.inr hm)
    · refine .sl e _ g 0 cap xs.length (fun i j => flat.getD (i * (kinds P e).length + j) undef) rfl (Nat.pos_of_ne_zero h0) hm (hF g) (fun i j hi hj => ?_) (fun i j k hi hk => ?_) hnc
      · obtain ⟨u, h1, _⟩ := hr i j _ hi (List.getElem?_eq_getElem hj)
        rw [cell_of_row w g _ cur e (0, 0) hh, Nat.zero_add, List.getD_eq_getElem?_getD, h1]
        rw [← htake, List.getElem?_take] at h1
        split at h1
        · simpa using h1
        · cases h1
      · obtain ⟨u, h1, h2⟩ := hr i j k hi hk
        have hu : flat.getD (i * (kinds P e).length + j) undef = u := by rw [List.getD_eq_getElem?_getD, h1]; rfl
        rw [hu]
        exact h2.change fun b _ _ => ⟨rfl, hF b⟩
theorem RepD.weaken {P : Program} {w : World} {F F' : Nat → Prop} {k : K} {d : D} {v : Value} (h : RepD P w F k d v) (hF : ∀ b, ¬ F b → ¬ F' b) : RepD P w F' k d v := h.change fun b _ hb => ⟨rfl, hF b hb⟩
section
variable {E : Env} {w0 : World} {X : Nat → Prop} {st : St} {a : Act} {cx : Cx} {o : Oper} {av : AV}
/-- A cell that is handed to a call. -/
theorem Rel.lent (h : Rel E w0 X st a cx) {F : Nat → Prop} (hF : (∀ b, ¬ F b) ∨ ∀ b, F b → Forb cx b) {k : K} {c : Cell} {dt : D} {u : Value} {d j : Nat} (hp : packCell k (res (get st) c) = some dt) (hno : isOwn c = false) (hl : (∀ b, ¬ F b) ∨ lendsC c = false) (hc : CellRep cx d j c u) : RepD E.P cx.w F k dt u := by
  have hFn : ∀ b, ¬ Forb cx b → ¬ F b := fun b hb hf => by
    rcases hF with h1 | h1
    · exact h1 b hf
    · exact hb (h1 b hf)
  cases c with
  | ref d' j' =>
    rcases hl with hl | hl
    · obtain ⟨e, hpl⟩ := hc
      simp only [res] at hp
      cases hca : cellAt (get st d') j' with
      | sl ow e1 xs => cases ow with
        | zero => rw [hca] at hp; cases k <;> cases hp
        | succ ow =>
          rw [hca] at hp
          obtain ⟨v, h1, h2, _, _⟩ := h.place hca
          obtain ⟨rfl, rfl⟩ := Prod.mk.inj (Option.some.inj (hpl.symm.trans h1))
          cases k with
          | sl e2 =>
            simp only [packCell] at hp
            cases hb : Nat.beq e2 e with
            | false => rw [hb] at hp; cases hp
            | true =>
              rw [hb] at hp
              obtain rfl := Option.some.inj hp
              obtain rfl := Nat.eq_of_beq_eq_true hb
              rw [← h.P]
              exact h2.rep hl
          | _ => cases hp
      | _ => rw [hca] at hp; cases k <;> cases hp
    · cases hl
  | u => rw [← h.P]; exact (packCell_rep hp hno hc).weaken hFn
  | v x => rw [← h.P]; exact (packCell_rep hp hno hc).weaken hFn
  | sl ow e xs => rw [← h.P]; exact (packCell_rep hp hno hc).weaken hFn
theorem Rel.lentRow (h : Rel E w0 X st a cx) {F : Nat → Prop} (hF : (∀ b, ¬ F b) ∨ ∀ b, F b → Forb cx b) {ks : List K} {cs : List Cell} {ds rest : List D} {vs : List Value} {d off : Nat} (hp : packCells ks (cs.map (res (get st))) = some ds) (hno : ∀ c ∈ cs, isOwn c = false) (hl : (∀ b, ¬ F b) ∨ ∀ c ∈ cs, lendsC c = false) (hc : CellsRep cx d off cs vs) : ds.length = ks.length ∧ RowRep E.P cx.w F ks (ds ++ rest) vs := by
  obtain ⟨h1, h2, h3⟩ := packCells_get hp
  refine ⟨h2, by rw [← hc.1]; simpa using h1, fun j k u hk hu => ?_⟩
  have hj : j < cs.length := by rw [hc.1]; exact (List.getElem?_eq_some_iff.1 hu).1
  have hcj := List.getElem?_eq_getElem hj
  have hjd : j < ds.length := by rw [h2]; exact (List.getElem?_eq_some_iff.1 hk).1
  have hd : (ds ++ rest).getD j .j = ds.getD j .j := by rw [List.getD_eq_getElem?_getD, List.getElem?_append_left hjd, List.getD_eq_getElem?_getD]
  rw [hd]
  exact h.lent hF (h3 j k _ hk (by rw [List.getElem?_map, hcj]; rfl)) (hno _ (List.getElem_mem hj)) (hl.imp id fun hh => hh _ (List.getElem_mem hj)) (hc.2.2 j _ u hcj hu)
theorem lends_cells {g : Nat → AV} {x : Operand} {p : Prop} (hg : p) (h : lends g x = false) : (∀ ag cs, Ev.opnd E g x = .p ag cs → ∀ c ∈ cs, lendsC c = false) ∧ (∀ d n, Ev.opnd E g x ≠ .pat d n) ∧ ∀ d j i n, Ev.opnd E g x ≠ .pel d j i n := by
  have hof : ∀ v : Value, (∀ ag cs, ofV v = .p ag cs → ∀ c ∈ cs, lendsC c = false) ∧ (∀ d n, ofV v ≠ .pat d n) ∧ ∀ d j i n, ofV v ≠ .pel d j i n := by
    intro v
    cases v with
    | agg vs =>
      show (∀ ag cs, (bif vs.toList.all Value.oneCell' then AV.p true (vs.toList.map .v) else .u) = .p ag cs → _) ∧ (∀ d n, (bif vs.toList.all Value.oneCell' then AV.p true (vs.toList.map .v) else .u) ≠ _) ∧ ∀ d j i n, (bif vs.toList.all Value.oneCell' then AV.p true (vs.toList.map .v) else .u) ≠ _
      cases vs.toList.all Value.oneCell' with
      | false => simp
      | true =>
        refine ⟨fun ag cs e c hc => ?_, by simp, by simp⟩
        simp only [cond_true, AV.p.injEq] at e
        rw [← e.2] at hc
        obtain ⟨y, _, rfl⟩ := List.mem_map.1 hc; rfl
    | tuple vs => simp [ofV]
    | _ =>
      refine ⟨fun ag cs e c hc => ?_, fun d n e => ?_, fun d j i n e => ?_⟩
      · simp only [ofV, AV.p.injEq] at e
        rw [← e.2] at hc
        obtain rfl := List.mem_singleton.1 hc; rfl
      · simp [ofV] at e
      · simp [ofV] at e
  cases x with
  | const v => exact hof v
  | global n => simp only [Ev.opnd]; cases E.glob n <;> simp
  | func f => simp [Ev.opnd]
  | tmp t =>
    simp only [Ev.opnd]
    simp only [lends] at h
    cases hgt : g t with
    | p ag cs =>
      rw [hgt] at h
      have h' := List.any_eq_false.1 h
      refine ⟨fun ag' cs' e c hc => ?_, by simp [copyOf], by simp [copyOf]⟩
      simp only [copyOf, AV.p.injEq] at e
      rw [← e.2] at hc
      obtain ⟨j, hj⟩ := List.mem_iff_getElem?.1 hc
      obtain ⟨c0, h0, rfl⟩ := refsOf_get t cs 0 j c hj
      have := h' c0 (List.mem_of_getElem? h0)
      cases c0 with
      | sl ow e xs => cases ow with
        | zero => rfl
        | succ n => simp [lendsC] at this
      | ref _ _ => simp [lendsC] at this
      | _ => rfl
    | box o cs => rw [hgt] at h; cases h
    | pat d n => rw [hgt] at h; cases h
    | pel d j i n => rw [hgt] at h; cases h
    | tup ps => rw [hgt] at h; cases h
    | u => simp [copyOf]
    | ro cs n => simp [copyOf]
    | fn f => simp [copyOf]
theorem map_res_id {g : Nat → AV} {cs : List Cell} (h : ∀ c ∈ cs, lendsC c = false) : cs.map (res g) = cs := by
  conv => rhs; rw [← List.map_id cs]
  apply List.map_congr_left
  intro c hc
  cases c with
  | ref _ _ => have := h _ hc; cases this
  | _ => rfl
theorem Rel.packArg_rep (h : Rel E w0 X st a cx) {F : Nat → Prop} (hF : (∀ b, ¬ F b) ∨ ∀ b, F b → Forb cx b) {x : Operand} (hl : (∀ b, ¬ F b) ∨ lends (get st) x = false) {pt : Nat × List K} {ds : List D} (hp : packArg E (get st) pt (Ev.opnd E (get st) x) = some ds) (h0k : 0 < pt.2.length) (rest : List D) :
    ds.length = pt.2.length ∧ ArgRep E.P cx.w F pt (ds ++ rest) (a.eval x) := by
  obtain ⟨f, ks⟩ := pt
  have hx := h.opnd 0 x
  have hno : ∀ {ag cs}, Ev.opnd E (get st) x = .p ag cs → ∀ c ∈ cs, isOwn c = false := fun e => opnd_cells_noOwn E _ h.glob x (by rw [e]; rfl)
  have hlc : (∀ b, ¬ F b) ∨ ((∀ ag cs, Ev.opnd E (get st) x = .p ag cs → ∀ c ∈ cs, lendsC c = false) ∧ (∀ d n, Ev.opnd E (get st) x ≠ .pat d n) ∧ ∀ d j i n, Ev.opnd E (get st) x ≠ .pel d j i n) := hl.imp id (lends_cells h.glob)
  unfold packArg at hp
  generalize hq : Ev.opnd E (get st) x = q at hp hx hno hlc
  split at hp
  · rename_i cs e
    obtain ⟨h1, h2⟩ := h.lentRow hF (rest := rest) hp (hno rfl) (hlc.imp id fun hh => hh.1 _ _ rfl) (show CellsRep cx 0 0 cs [a.eval x] from hx)
    have e' : f = 0 := e
    subst e'
    exact ⟨h1, h2⟩
  · rename_i cs e
    obtain ⟨vs, hv, hr⟩ := hx
    obtain ⟨h1, h2⟩ := h.lentRow hF (rest := rest) hp (hno rfl) (hlc.imp id fun hh => hh.1 _ _ rfl) hr
    have e' : f = 1 := e
    subst e'
    exact ⟨h1, vs, hv, h2⟩
  · rename_i e
    have e' : f = 7 := e
    subst e'
    split at hp
    · rename_i ek hk
      obtain rfl := Option.some.inj hp
      have hk' : ks = [.sl ek] := hk
      subst hk'
      have hr : CellsRep cx 0 0 [.v (.slice none 0 0)] [a.eval x] := hx
      exact ⟨rfl, ⟨ek, rfl⟩, hr.2.2 0 _ _ rfl rfl⟩
    · cases hp
  · rename_i cs n e
    obtain ⟨b, off, vs, hv, h0, hw, hFb, hm, hr⟩ := hx
    have hno' : ∀ c ∈ cs, isOwn c = false := fun c hc => by have := List.all_eq_true.1 hw c hc; simpa using this
    have e' : f = 2 := e
    subst e'
    obtain ⟨g1, g2, g3⟩ := packCells_get hp
    have hrc := hr.cut (d' := 0) (off' := 0) hno' n ks.length
    have hFn : ∀ b, ¬ Forb cx b → ¬ F b := fun b hb hf => by
      rcases hF with h1 | h1
      · exact h1 b hf
      · exact hb (h1 b hf)
    refine ⟨g2, b, off + n, cut vs n ks.length, hv, h0k, hFn b hFb, fun j u hj => ?_, by rw [← hrc.1]; exact g1, fun j k u hk hu => ?_⟩
    · simp only [cut, List.getElem?_take, List.getElem?_drop] at hj
      split at hj
      · rw [Nat.add_assoc]; exact hm _ u hj
      · cases hj
    · have hj : j < (takeAt cs n ks.length).length := by rw [hrc.1]; exact (List.getElem?_eq_some_iff.1 hu).1
      have hcj := List.getElem?_eq_getElem hj
      have hjd : j < ds.length := by rw [g2]; exact (List.getElem?_eq_some_iff.1 hk).1
      have hd : (ds ++ rest).getD j .j = ds.getD j .j := by rw [List.getD_eq_getElem?_getD, List.getElem?_append_left hjd, List.getD_eq_getElem?_getD]
      rw [hd, ← h.P]
      exact (packCell_rep (g3 j k _ hk hcj) (takeAt_noOwn hno' _ _ _ (List.getElem_mem hj)) (hrc.2.2 j _ u hcj hu)).weaken hFn
  · rename_i d n e
    have e' : f = 2 := e
    subst e'
    rcases hlc with hF0 | hlc
    · obtain ⟨b, hb, hv⟩ := hx
      have hs := h.slots d
      split at hp
      · rename_i ow cs hg
        rw [hg] at hs
        obtain ⟨b', vs, t', _, h1, h2, h3, hr, _⟩ := hs
        obtain rfl := Option.some.inj (hb.symm.trans h1)
        have hr' : CellsRep cx d 0 (refsOf d cs 0) vs := hr.refs
        have hrc := hr'.cut (d' := 0) (off' := 0) (refsOf_noOwn d cs 0) n ks.length
        have hp' : packCells ks ((takeAt (refsOf d cs 0) n ks.length).map (res (get st))) = some ds := by
          rw [← hp]; congr 1
          apply List.ext_getElem?
          intro j
          simp only [takeAt, List.getElem?_map, List.getElem?_take, List.getElem?_drop]
          by_cases hj : j < ks.length
          · rw [if_pos hj, if_pos hj]
            cases hc : cs[n + j]? with
            | none =>
              have : (refsOf d cs 0)[n + j]? = none := by
                rw [List.getElem?_eq_none_iff, refsOf_length]; exact List.getElem?_eq_none_iff.1 hc
              rw [this]
            | some c =>
              have hlt : n + j < (refsOf d cs 0).length := by rw [refsOf_length]; exact (List.getElem?_eq_some_iff.1 hc).1
              obtain ⟨c0, hc0, hc1⟩ := refsOf_get d cs 0 (n + j) _ (List.getElem?_eq_getElem hlt)
              rw [hc] at hc0
              obtain rfl := Option.some.inj hc0
              rw [List.getElem?_eq_getElem hlt, hc1]
              cases ho : isOwn c with
              | false => rfl
              | true =>
                simp only [cond_true, Option.map_some, Option.some.injEq, res, Nat.zero_add, hg, cellAt]
                rw [List.getD_eq_getElem?_getD, hc]
                cases c with
                | sl ow' e1 xs1 => cases ow' with
                  | zero => simp [isOwn] at ho
                  | succ q => rfl
                | _ => simp [isOwn] at ho
          · rw [if_neg hj, if_neg hj]
        obtain ⟨g1, g2⟩ := h.lentRow (.inl hF0) (rest := rest) hp' (takeAt_noOwn (refsOf_noOwn d cs 0) _ _) (.inl hF0) hrc
        refine ⟨g1, b, n, cut vs n ks.length, hv, h0k, hF0 b, fun j u hj => ?_, g2⟩
        rw [cell_of_row cx.w b _ vs.toArray t' (0, 0) h3]
        simp only [cut, List.getElem?_take, List.getElem?_drop] at hj
        split at hj
        · simpa using hj
        · cases hj
      · cases hp
    · exact absurd rfl (hlc.2.1 d n)
  · rename_i d j i n e
    have e' : f = 2 := e
    subst e'
    rcases hlc with hF0 | hlc
    · obtain ⟨e', b, n', c, hpl, hi0, hin, hv⟩ := hx
      split at hp
      · rename_i ow e1 xs hca
        obtain ⟨v, h1, h2, _, _⟩ := h.place hca
        obtain ⟨rfl, rfl⟩ := Prod.mk.inj (Option.some.inj (hpl.symm.trans h1))
        obtain ⟨hn, vs, hl', hm, hr⟩ := own_row h2 i.toNat (by omega)
        have hP := h.P
        rw [hP] at hl' hm hr hv
        have hrc : CellsRep cx 0 0 (takeAt (rowCells (kinds E.P e') (xs.getD i.toNat []) 0) n ks.length) (cut vs n ks.length) := (rowCells_rep hl' (by rw [hP]; exact hr) 0).cut (rowCells_noOwn _ _ _) _ _
        obtain ⟨g1, g2, g3⟩ := packCells_get hp
        refine ⟨g2, b, _, cut vs n ks.length, hv, h0k, hF0 b, fun j' u hj => ?_, by rw [← hrc.1]; exact g1, fun j' k u hk hu => ?_⟩
        · simp only [cut, List.getElem?_take, List.getElem?_drop] at hj
          split at hj
          · rw [Nat.add_assoc]; exact hm _ u hj
          · cases hj
        · have hj : j' < (takeAt (rowCells (kinds E.P e') (xs.getD i.toNat []) 0) n ks.length).length := by rw [hrc.1]; exact (List.getElem?_eq_some_iff.1 hu).1
          have hcj := List.getElem?_eq_getElem hj
          have hjd : j' < ds.length := by rw [g2]; exact (List.getElem?_eq_some_iff.1 hk).1
          have hd : (ds ++ rest).getD j' .j = ds.getD j' .j := by rw [List.getD_eq_getElem?_getD, List.getElem?_append_left hjd, List.getD_eq_getElem?_getD]
          rw [hd, ← h.P]
          exact (packCell_rep (g3 j' k _ hk hcj) (takeAt_noOwn (rowCells_noOwn _ _ _) _ _ _ (List.getElem_mem hj)) (hrc.2.2 j' _ u hcj hu)).weaken fun b _ => hF0 b
      · cases hp
    · exact absurd rfl (hlc.2.2 d j i n)
  · rename_i f' n e
    have e' : f = f' + 10 := e
    subst e'
    split at hp
    · rename_i hk
      have hk' : ks = [.bool] := hk
      subst hk'
      cases hb : Nat.beq n f' with
      | false => rw [hb] at hp; cases hp
      | true =>
        rw [hb] at hp
        obtain rfl := Option.some.inj hp
        obtain rfl := Nat.eq_of_beq_eq_true hb
        exact ⟨rfl, rfl, hx⟩
    · cases hp
  · cases hp
theorem Rel.packArgs_rep (h : Rel E w0 X st a cx) {F : Nat → Prop} (hF : (∀ b, ¬ F b) ∨ ∀ b, F b → Forb cx b) : ∀ {ps : List (Nat × List K)} {xs : List Operand} {ds : List D}, ((∀ b, ¬ F b) ∨ xs.any (lends (get st)) = false) → packArgs E (get st) ps xs = some ds → ArgsRep E.P cx.w F ps ds (xs.map a.eval)
  | [], [], ds, _, _ => trivial
  | [], _ :: _, _, _, hp => by cases hp
  | _ :: _, [], _, _, hp => by cases hp
  | p :: ps, x :: xs, ds, hl, hp => by
    simp only [packArgs] at hp
    split at hp
    · rename_i d ds' h1 h2
      obtain rfl := Option.some.inj hp
      cases h0 : Nat.beq p.2.length 0 with
      | true => rw [h0] at h1; cases h1
      | false =>
        rw [h0, cond_false] at h1
        have hpos : 0 < p.2.length := Nat.pos_of_ne_zero fun e => by rw [e] at h0; cases h0
        obtain ⟨g1, g2⟩ := h.packArg_rep hF (hl.imp id fun hh => by rw [List.any_cons, Bool.or_eq_false_iff] at hh; exact hh.1) h1 hpos ds'
        refine ⟨g2, ?_⟩
        rw [← g1, List.drop_left]
        exact h.packArgs_rep hF (hl.imp id fun hh => by rw [List.any_cons, Bool.or_eq_false_iff] at hh; exact hh.2) h2
    · cases hp
/-! ### What comes back -/
theorem CellsRep.imp {cx1 cx2 : Cx} {d1 d2 off : Nat} {cs : List Cell} {vs : List Value} (h : CellsRep cx1 d1 off cs vs) (hi : ∀ j c u, c ∈ cs → CellRep cx1 d1 j c u → CellRep cx2 d2 j c u) : CellsRep cx2 d2 off cs vs :=
  ⟨h.1, h.2.1, fun j c v h1 h2 => hi _ _ _ (List.mem_of_getElem? h1) (h.2.2 j c v h1 h2)⟩
theorem PartsRep.imp {cx1 cx2 : Cx} {d1 d2 : Nat} : ∀ {ps : List (Bool × List Cell)} {off : Nat} {vs : List Value}, PartsRep cx1 d1 off ps vs → (∀ j c u, (∃ p ∈ ps, c ∈ p.2) → CellRep cx1 d1 j c u → CellRep cx2 d2 j c u) → PartsRep cx2 d2 off ps vs
  | [], _, [], _, _ => trivial
  | [], _, _ :: _, h, _ => by simp [PartsRep] at h
  | p :: ps, _, [], h, _ => by obtain ⟨a, cs⟩ := p; cases a <;> simp [PartsRep] at h
  | (true, cs) :: ps, off, v :: vs, h, hi => by
    obtain ⟨⟨ws, rfl, hc⟩, hr⟩ := h
    exact ⟨⟨ws, rfl, hc.imp fun j c u hm => hi j c u ⟨_, List.mem_cons_self .., hm⟩⟩, hr.imp fun j c u ⟨p, hp, hm⟩ => hi j c u ⟨p, List.mem_cons_of_mem _ hp, hm⟩⟩
  | (false, cs) :: ps, off, v :: vs, h, hi => by
    obtain ⟨hc, hr⟩ := h
    exact ⟨hc.imp fun j c u hm => hi j c u ⟨_, List.mem_cons_self .., hm⟩, hr.imp fun j c u ⟨p, hp, hm⟩ => hi j c u ⟨p, List.mem_cons_of_mem _ hp, hm⟩⟩
theorem cellsR_get : ∀ (ks : List (K × Nat)) (ds : List D) (i j : Nat) (c : Cell), (cellsR ks ds i)[j]? = some c → ∃ k, ks[j]? = some k ∧ c = cellR k (ds.getD (i + j) .j)
  | [], _, _, j, c, h => by simp [cellsR] at h
  | k :: ks, ds, i, 0, c, h => ⟨k, rfl, by simpa [cellsR, eq_comm] using h⟩
  | k :: ks, ds, i, j + 1, c, h => by
    obtain ⟨k', h1, h2⟩ := cellsR_get ks ds (i + 1) j c (by simpa [cellsR] using h)
    exact ⟨k', by simpa using h1, by rw [h2, show i + 1 + j = i + (j + 1) by omega]⟩
theorem cellsR_length : ∀ (ks : List (K × Nat)) (ds : List D) (i : Nat), (cellsR ks ds i).length = ks.length
  | [], _, _ => rfl
  | k :: ks, ds, i => by simp [cellsR, cellsR_length ks]
theorem partsR_mem : ∀ {rt : List (Bool × List (K × Nat))} {ds : List D} {i : Nat} {p : Bool × List Cell}, p ∈ partsR rt ds i → ∃ q ∈ rt, ∃ i', p = (q.1, cellsR q.2 ds i')
  | [], _, _, _, h => by simp [partsR] at h
  | (a, ks) :: rt, ds, i, p, h => by
    rcases List.mem_cons.1 h with rfl | h
    · exact ⟨(a, ks), List.mem_cons_self .., i, rfl⟩
    · obtain ⟨q, hq, i', e⟩ := partsR_mem h
      exact ⟨q, List.mem_cons_of_mem _ hq, i', e⟩
theorem AVRep.impR {cx1 cx2 : Cx} {d1 d2 : Nat} {rt : List (Bool × List (K × Nat))} {ds : List D} {v : Value} (h : AVRep cx1 d1 (mkR0 rt ds) v)
    (hi : ∀ j k dt u, (∃ q ∈ rt, k ∈ q.2) → CellRep cx1 d1 j (cellR k dt) u → CellRep cx2 d2 j (cellR k dt) u) : AVRep cx2 d2 (mkR0 rt ds) v := by
  have hi' : ∀ j c u, (∃ p ∈ partsR rt ds 0, c ∈ p.2) → CellRep cx1 d1 j c u → CellRep cx2 d2 j c u := by
    rintro j c u ⟨p, hp, hc⟩
    obtain ⟨q, hq, i', rfl⟩ := partsR_mem hp
    obtain ⟨n, hn⟩ := List.mem_iff_getElem?.1 hc
    obtain ⟨k, hk, rfl⟩ := cellsR_get _ _ _ _ _ hn
    exact hi j k _ u ⟨q, hq, List.mem_of_getElem? hk⟩
  unfold mkR0 at h ⊢
  split at h
  · rename_i a cs e
    cases a with
    | true => obtain ⟨vs, rfl, hc⟩ := h; exact ⟨vs, rfl, hc.imp fun j c u hm => hi' j c u ⟨(true, cs), by rw [e]; simp, hm⟩⟩
    | false =>
      have hc : CellsRep cx1 d1 0 cs [v] := h
      exact hc.imp fun j c u hm => hi' j c u ⟨(false, cs), by rw [e]; simp, hm⟩
  · obtain ⟨vs, rfl, hp⟩ := h
    exact ⟨vs, rfl, hp.imp fun j c u ⟨p, hp, hm⟩ => hi' j c u ⟨p, hp, hm⟩⟩
theorem RepD.flat {P : Program} {w w' : World} {F F' : Nat → Prop} {k : K} {d : D} {v : Value} (hk : isSl k = false) (h : RepD P w F k d v) : RepD P w' F' k d v := by
  cases h with
  | int k d => exact .int k d
  | bool d => exact .bool d
  | str d => exact .str d
  | _ => cases hk
/-- What comes back, told in the caller's context. -/
theorem res_new0 {P : Program} {rt : List (Bool × List (K × Nat))} {t : List D} {v : Value} {w' : World} {own : Nat → Option Nat} {pl'} {bx' : Option Nat} {N : Nat → Prop} (hP : cx.P = P) (hb : Below cx.w.heap.size cx.w w') (hfl : flagsOk rt = true)
    (hN : shares P rt = true → ∀ b, Forb cx b → N b) (hown : ∀ b j, own b = some j → cx.w.heap.size ≤ b ∧ b < w'.heap.size) (hr : AVRep (cxr P w' own N pl' bx') 0 (mkR0 rt t) v) : New cx w' (mkR0 rt t) v := by
  have hF : shares P rt = true → ∀ b, ¬ Forb (cxr P w' own N pl' bx') b → ∀ d pl'', ¬ Forb (cxd cx w' own d pl'' none) b := by
    intro hs b hf d pl'' hf'
    apply hf
    rcases hf' with h | ⟨p, hp⟩
    · exact .inl (hN hs b (.inl h))
    · cases ho : own b with
      | none => simp only [cxd, ho] at hp; exact .inl (hN hs b (.inr ⟨p, hp⟩))
      | some j => exact .inr ⟨(0, j), by simp [cxr, ho]⟩
  have hsl : ∀ {e : TypeId} {n : Nat}, (∃ q ∈ rt, (K.sl e, n) ∈ q.2) → shares P rt = false → n ≠ 0 ∧ (kinds P e).any isSl = false := by
    rintro e n ⟨q, hq, hk⟩ hs
    have h1 := List.any_eq_false.1 hs q hq
    have h2 := List.any_eq_false.1 (Bool.not_eq_true _ ▸ h1 : (q.2.any _) = false) (K.sl e, n) hk
    dsimp only at h2
    rw [Bool.or_eq_true, not_or] at h2
    exact ⟨(fun e0 => by subst e0; exact h2.1 rfl), by simpa using h2.2⟩
  have howner : ∀ {e : TypeId} {n : Nat}, (∃ q ∈ rt, (K.sl e, n) ∈ q.2) → n ≠ 0 → owner (mkR0 rt t) = true := by
    rintro e n ⟨q, hq, hkq⟩ hn0
    have hmem : ∀ {rt : List (Bool × List (K × Nat))} {i : Nat}, q ∈ rt → ∃ p ∈ partsR rt t i, p.2.any isOwn = true := by
      intro rt
      induction rt with
      | nil => intro i hq; simp at hq
      | cons r rt ih =>
        intro i hq
        obtain ⟨ag, ks⟩ := r
        rcases List.mem_cons.1 hq with rfl | hq
        · refine ⟨_, List.mem_cons_self .., ?_⟩
          rw [List.any_eq_true]
          obtain ⟨m, hm⟩ := List.mem_iff_getElem?.1 hkq
          have hlt : m < (cellsR ks t i).length := by rw [cellsR_length]; exact (List.getElem?_eq_some_iff.1 hm).1
          obtain ⟨k', hk', e'⟩ := cellsR_get ks t i m _ (List.getElem?_eq_getElem hlt)
          have hm' : ks[m]? = some (K.sl e, n) := hm
          rw [hm'] at hk'
          obtain rfl := Option.some.inj hk'
          refine ⟨_, List.getElem_mem hlt, ?_⟩
          rw [e']
          cases n with
          | zero => exact absurd rfl hn0
          | succ n => rfl
        · obtain ⟨p, hp, ho⟩ := ih (i := i + ks.length) hq
          exact ⟨p, List.mem_cons_of_mem _ hp, ho⟩
    obtain ⟨p, hp, hpo⟩ := hmem (i := 0) hq
    unfold mkR0
    split
    · rename_i a cs e'
      rw [e'] at hp
      obtain rfl := List.mem_singleton.1 hp
      exact hpo
    · exact List.any_eq_true.2 ⟨p, hp, hpo⟩
  refine ⟨hb, fun ho d => ?_, fun ho => ⟨own, hown, fun d => ⟨pl', none, (AVRep.forget (AVRep.impR hr ?_) d)⟩⟩⟩
  · refine hr.impR fun j k dt u hk hc => ?_
    obtain ⟨k, n⟩ := k
    cases k with
    | int _ => exact hc
    | bool => exact hc
    | str => exact hc
    | sl e =>
      cases hs : shares P rt with
      | true =>
        cases n with
        | zero =>
          have hc' : RepD P w' (Forb (cxr P w' own N pl' bx')) (.sl e) (.l dt.rows) u := hc
          show RepD cx.P w' _ (.sl e) (.l dt.rows) u
          rw [hP]
          refine hc'.weaken fun b hf hf' => hf ?_
          exact .inl (hN hs b hf')
        | succ n =>
          rw [howner hk (by omega)] at ho; cases ho
      | false => rw [howner hk (hsl hk hs).1] at ho; cases ho
  · intro j k dt u hk hc
    obtain ⟨k, n⟩ := k
    cases k with
    | int _ => exact hc
    | bool => exact hc
    | str => exact hc
    | sl e =>
      cases n with
      | zero =>
        cases hs : shares P rt with
        | false => exact absurd rfl (hsl hk hs).1
        | true =>
          have hc' : RepD P w' (Forb (cxr P w' own N pl' bx')) (.sl e) (.l dt.rows) u := hc
          show RepD cx.P w' _ (.sl e) (.l dt.rows) u
          rw [hP]
          exact hc'.weaken fun b hf => hF hs b hf d pl'
      | succ n =>
        have hn0 : n = 0 := by
          obtain ⟨q, hq, hkq⟩ := hk
          have h1 := List.all_eq_true.1 hfl q hq
          have h2 := List.all_eq_true.1 h1 (K.sl e, n + 1) hkq
          have := Nat.le_of_ble_eq_true h2
          omega
        subst hn0
        obtain ⟨h1, h2, h3, h4⟩ := hc
        refine ⟨?_, ?_, fun b hb' => ?_, fun hh => absurd rfl hh⟩
        · show Owns cx.P w' _ e dt.rows u
          rw [hP]
          obtain ⟨m0, flat, hf, hrr⟩ := h1
          refine ⟨m0, flat, hf, fun i j k hi hk' => ?_⟩
          obtain ⟨u', g1, g2⟩ := hrr i j k hi hk'
          refine ⟨u', g1, ?_⟩
          cases hs : shares P rt with
          | true => exact g2.weaken fun b hf => hF hs b hf d pl'
          | false =>
            have := List.any_eq_false.1 (hsl hk hs).2 k (List.mem_of_getElem? hk')
            exact g2.flat (by simpa using this)
        · have : pl' j = some (e, u) := by simpa [cxr] using h2
          simp [cxd, this]
        · have := h3 b hb'
          simp only [cxr, Option.map_eq_some_iff, Prod.mk.injEq] at this
          obtain ⟨q, hq, _, rfl⟩ := this
          simp [cxd, hq]
theorem newR_spec {rt : List (Bool × List (K × Nat))} {ks : List (K × Nat)} (h : newR rt = some ks) : ∃ e, rt = [(false, (.sl e, 1) :: ks)] ∧ isPtrT e = true ∧ ∀ k ∈ ks, k.2 = 0 := by
  unfold newR at h
  split at h
  · rename_i e ks'
    cases hb : (isPtrT e && ks'.all (fun k => Nat.beq k.2 0)) with
    | false => rw [hb] at h; cases h
    | true =>
      rw [hb] at h
      obtain rfl := Option.some.inj h
      rw [Bool.and_eq_true] at hb
      exact ⟨e, rfl, hb.1, fun k hk => Nat.eq_of_beq_eq_true (List.all_eq_true.1 hb.2 k hk)⟩
  · cases h
theorem cellsR_zeroNoOwn {ks : List (K × Nat)} (h0 : ∀ k ∈ ks, k.2 = 0) {ds : List D} {i : Nat} : ∀ c ∈ cellsR ks ds i, isOwn c = false := by
  intro c hc
  obtain ⟨n, hn⟩ := List.mem_iff_getElem?.1 hc
  obtain ⟨k, hk, rfl⟩ := cellsR_get _ _ _ _ _ hn
  have h := h0 k (List.mem_of_getElem? hk)
  obtain ⟨k, m⟩ := k
  obtain rfl : m = 0 := h
  cases k <;> rfl
theorem res_new {P : Program} {rt : List (Bool × List (K × Nat))} {t : List D} {v : Value} {w' : World} {own : Nat → Option Nat} {pl'} {bx' : Option Nat} {N : Nat → Prop} (hP : cx.P = P) (hb : Below cx.w.heap.size cx.w w') (hfl : flagsOk rt = true)
    (hN : shares P rt = true → ∀ b, Forb cx b → N b) (hown : ∀ b j, own b = some j → cx.w.heap.size ≤ b ∧ b < w'.heap.size) (hr : AVRep (cxr P w' own N pl' bx') 0 (mkR rt t) v) : New cx w' (mkR rt t) v := by
  unfold mkR at hr ⊢
  cases hn : newR rt with
  | none => rw [hn] at hr; exact res_new0 hP hb hfl hN hown hr
  | some ks =>
    rw [hn] at hr
    obtain ⟨e, rfl, he, h0⟩ := newR_spec hn
    obtain ⟨b, vs, ty, rfl, hbx, hO, hh, hcr, _⟩ := hr
    have hO' : own b = some 0 := by
      have hO1 : ((own b).map fun j => (0, j)) = some (0, 0) := hO
      rw [Option.map_eq_some_iff] at hO1
      obtain ⟨j, h1, h2⟩ := hO1
      rw [h1, (Prod.mk.inj h2).2]
    refine ⟨hb, fun h => by simp [owner] at h, fun _ => ⟨fun b' => if b' = b then some 0 else none, fun b' j hj => ?_, fun d => ⟨fun _ => none, some b, b, vs, ty, rfl, ?_, ?_, hh, ?_, fun e => nomatch e⟩⟩⟩
    · have hj' : (if b' = b then some 0 else none) = some j := hj
      split at hj'
      · rename_i e1; subst e1; exact hown _ _ hO'
      · cases hj'
    · simp [cxd]
    · simp [cxd]
    · have hno := cellsR_zeroNoOwn h0 (ds := t) (i := 1)
      refine CellsRep.map (forgetC d) (forgetC_or d) ?_
      refine hcr.imp fun j c u hm hc => ?_
      obtain ⟨n, hn'⟩ := List.mem_iff_getElem?.1 hm
      obtain ⟨k, hk, rfl⟩ := cellsR_get _ _ _ _ _ hn'
      have hk0 := h0 k (List.mem_of_getElem? hk)
      obtain ⟨k, m⟩ := k
      obtain rfl : m = 0 := hk0
      cases k with
      | int _ => exact hc
      | bool => exact hc
      | str => exact hc
      | sl e1 =>
        have hs : shares P [(false, (K.sl e, 1) :: ks)] = true := by
          unfold shares
          rw [List.any_cons, Bool.or_eq_true]
          refine .inl ?_
          rw [List.any_cons, Bool.or_eq_true]
          refine .inr (List.any_eq_true.2 ⟨_, List.mem_of_getElem? hk, ?_⟩)
          rfl
        have hc' : RepD P w' (Forb (cxr P w' own N pl' bx')) (.sl e1) (.l _) u := hc
        show RepD cx.P w' _ (.sl e1) (.l _) u
        rw [hP]
        refine hc'.weaken fun b1 hf hf' => hf ?_
        rcases hf' with h1 | ⟨p, hp⟩
        · exact .inl (hN hs b1 (.inl h1))
        · by_cases e1 : b1 = b
          · subst e1; exact .inr ⟨(0, 0), hO⟩
          · simp only [cxd, if_neg e1] at hp
            exact .inl (hN hs b1 (.inr ⟨p, hp⟩))
end
end Go.Proofs.YtpanhndkcnojpaaDoor.Ev
/- Every quiet operation of the evaluator is what the model runs. No condition. -/
namespace Go.Proofs.YtpanhndkcnojpaaDoor.Ev
open Go Go.RowKit
set_option linter.unusedVariables false
set_option linter.unusedSimpArgs false
def EnvOk (E : Env) : Prop := ∀ f sp, E.spec f = some sp → SpecOk E.P E.glob f sp
section
variable {E : Env} {w0 : World} {X : Nat → Prop} {st : St} {a : Act} {cx : Cx} {o : Oper} {av : AV}
theorem run_enter {P : Program} {n : Nat} {fn : Func} (h1 : P.funcs[n]? = some fn) (h2 : fn.body.isSome = true) (h3 : (fn.name == "runtime.NumGoroutine") = false) (args : Array Value) (w : World) : (callFunc n args).run P w = .ok (.enter n args) w := by
  obtain ⟨b, hb⟩ := Option.isSome_iff_exists.1 h2
  simp only [callFunc, program, bind, Sem.bind, Sem.run, h1]
  have h3' : ¬ ((fn.name == "runtime.NumGoroutine") = true) := by rw [h3]; simp
  rw [if_neg h3', hb]
  rfl
theorem mutB_false {P : Program} : ∀ {ps : List (Nat × List K)} {vs : List Value} {b : Nat}, (ps.any fun p => isW p.1) = false → ¬ MutB ps vs b
  | [], _, _, _, h => by cases h
  | _ :: _, [], _, _, h => by cases h
  | p :: ps, v :: vs, b, hm, h => by
    rw [List.any_cons, Bool.or_eq_false_iff] at hm
    rcases h with e | h
    · rw [e.isW] at hm; cases hm.1
    · exact mutB_false (P := P) hm.2 h
/-- A call of a function value, with what it has captured. -/
theorem Rel.q_callV (h : Rel E w0 X st a cx) (hE : EnvOk E) (f : Operand) (args : Array Operand) (ts : Array TypeId) (ho : o.op = .call { callee := .value f, args := args, argTypes := ts }) {n : Nat} {caps : List Value} (hfv : a.eval f = .func (.func n) #[] caps.toArray) {sp : Spec} (hs : E.spec n = some sp)
    (hm : isMut sp = false) {ds t : List D} (hp : ∀ F : Nat → Prop, ((∀ b, ¬ F b) ∨ shares E.P sp.rt = true ∧ ∀ b, F b → Forb cx b) → ArgsRep E.P cx.w F sp.pt ds (args.toList.map a.eval ++ caps)) (hG : sp.G ds = some t) : Goal E o a cx (mkR sp.rt t) := by
  obtain ⟨hfl, hdo⟩ := hE n sp hs
  have hargs : args.map a.eval = (args.toList.map a.eval).toArray := by apply Array.ext'; simp
  have hexec : (execOp a.eval o).run E.P cx.w = (callFunc n (args.toList.map a.eval ++ caps).toArray).run E.P cx.w := by
    simp only [execOp, ho, resolve, hfv, Deferred.ofValue, Sem.run_bind, Sem.run_pure, Result.andThen_ok, invoke, hargs]
    rw [Array.empty_append, List.append_toArray]
  have hmut : ∀ vs b, ¬ MutB sp.pt vs b := fun vs b => mutB_false (P := E.P) hm
  let N : Nat → Prop := fun b => shares E.P sp.rt = true ∧ Forb cx b
  have hargsR : ArgsRep E.P cx.w (fun b => N b ∨ MutB sp.pt (args.toList.map a.eval ++ caps) b) sp.pt ds (args.toList.map a.eval ++ caps) := by
    refine hp _ ?_
    cases hsh : shares E.P sp.rt with
    | true =>
      refine .inr ⟨rfl, fun b hb => ?_⟩
      rcases hb with hb | hb
      · exact hb.2
      · exact absurd hb (hmut _ b)
    | false =>
      refine .inl ?_
      rintro b (hb | hb)
      · exact absurd hb.1 (by rw [hsh]; simp)
      · exact hmut _ b hb
  have hN : ∀ b, N b → b < cx.w.heap.size ∧ ¬ MutB sp.pt (args.toList.map a.eval ++ caps) b := by
    rintro b ⟨_, hb | ⟨p, hb⟩⟩
    · exact ⟨Nat.lt_of_lt_of_le (h.non b hb).1 h.kept.size, hmut _ b⟩
    · exact ⟨(h.own b p hb).1, hmut _ b⟩
  have new : ∀ {v : Value} {w' : World}, ResOk E.P cx.w w' N sp (args.toList.map a.eval ++ caps) t v → New cx w' (mkR sp.rt t) v := by
    rintro v w' ⟨hk, ⟨own, pl', bx', hown, hr⟩, _⟩
    refine res_new h.P ?_ hfl (fun hs b hb => ⟨hs, hb⟩) hown hr
    exact ⟨hk.os, hk.tape, hk.output, hk.size, fun b hb => hk.block b hb (hmut _ b)⟩
  have hgl : GlobsAt E.glob cx.w fun b => MutB sp.pt (args.toList.map a.eval ++ caps) b ∨ N b := h.globAt fun b hb => hb.elim (fun h => absurd h (hmut _ b)) (·.2)
  rcases hdo cx.w N _ ds t hN hgl hargsR hG with ⟨⟨fn, h1, h2, h3⟩, hc⟩ | ⟨_, v, hrun, hres⟩
  · refine .inr ⟨n, (args.toList.map a.eval ++ caps).toArray, by rw [hexec]; exact run_enter h1 h2 h3 _ _, ?_⟩
    refine hc.mono ?_
    rintro e w' ⟨v, rfl, hres⟩
    exact ⟨v, rfl, new hres⟩
  · exact .inl ⟨v, cx.w, hexec.trans hrun, new hres⟩
theorem Rel.q_callN (h : Rel E w0 X st a cx) (hE : EnvOk E) (f : Operand) (args : Array Operand) (ts : Array TypeId) (ho : o.op = .call { callee := .value f, args := args, argTypes := ts }) {n : Nat} (hfv : a.eval f = .func (.func n) #[] #[]) {sp : Spec} (hs : E.spec n = some sp)
    (hm : isMut sp = false) (hl : (shares E.P sp.rt && args.toList.any (lends (get st))) = false) {ds t : List D} (hp : packArgs E (get st) sp.pt args.toList = some ds) (hG : sp.G ds = some t) : Goal E o a cx (mkR sp.rt t) := by
  refine h.q_callV hE f args ts ho (caps := []) hfv hs hm (fun F hF => ?_) hG
  rw [List.append_nil]
  rcases hF with hF | ⟨hsh, hF⟩
  · exact h.packArgs_rep (.inl hF) (.inl hF) hp
  · rw [hsh, Bool.true_and] at hl
    exact h.packArgs_rep (.inr hF) (.inr hl) hp
theorem Rel.q_call (h : Rel E w0 X st a cx) (hE : EnvOk E) (f : Operand) (args : Array Operand) (ts : Array TypeId) (ho : o.op = .call { callee := .value f, args := args, argTypes := ts }) {n : Nat} (hf : Ev.opnd E (get st) f = .fn n) {sp : Spec} (hs : E.spec n = some sp)
    (hm : isMut sp = false) (hl : (shares E.P sp.rt && args.toList.any (lends (get st))) = false) {ds t : List D} (hp : packArgs E (get st) sp.pt args.toList = some ds) (hG : sp.G ds = some t) : Goal E o a cx (mkR sp.rt t) :=
  h.q_callN hE f args ts ho (hf ▸ h.opnd 0 f : AVRep cx 0 (.fn n) (a.eval f)) hs hm hl hp hG
theorem packArg_noMut {g : Nat → AV} {p : Nat × List K} {av : AV} {ds : List D} (h : packArg E g p av = some ds) : isW p.1 = false := by
  obtain ⟨f, ks⟩ := p
  unfold packArg at h
  match f with
  | 0 => rfl
  | 1 => rfl
  | 2 => rfl
  | 3 => exfalso; cases av <;> cases h
  | 4 => exfalso; cases av <;> cases h
  | 5 => rfl
  | 6 => rfl
  | 7 => rfl
  | 8 => rfl
  | 9 => rfl
  | f + 10 => rfl
theorem packArgs_noMut {g : Nat → AV} : ∀ {ps : List (Nat × List K)} {xs : List Operand} {ds : List D}, packArgs E g ps xs = some ds → (ps.any fun p => isW p.1) = false
  | [], _, _, _ => rfl
  | _ :: _, [], _, hp => by cases hp
  | p :: ps, x :: xs, ds, hp => by
    simp only [packArgs] at hp
    split at hp
    · rename_i d ds' h1 h2
      rw [List.any_cons, packArgs_noMut h2, Bool.or_false]
      cases h0 : Nat.beq p.2.length 0 with
      | true => rw [h0] at h1; cases h1
      | false =>
        rw [h0, cond_false] at h1
        exact packArg_noMut h1
    · cases hp
theorem cap_range {e : Nat} (h : isCapT e = true) : 1500000000 ≤ e ∧ e < 1800000000 := by
  unfold isCapT at h
  rw [Bool.and_eq_true] at h
  exact ⟨Nat.le_of_ble_eq_true h.1, Nat.le_of_ble_eq_true h.2⟩
/-- What a function value that has captured numbers is. -/
theorem Rel.capCell (h : Rel E w0 X st a cx) {f : Operand} {e : TypeId} {xs : List (List D)} (hf : Ev.opnd E (get st) f = .p false [.sl 0 e xs]) (hk : (kinds E.P e).length = 0) (he : isCapT e = true) :
    ∃ vs : List Value, a.eval f = .func (.func (capF e)) #[] vs.toArray ∧ CapsAt cx.w (Forb cx) xs (lay e) 0 vs := by
  have hr : CellsRep cx 0 0 [.sl 0 e xs] [a.eval f] := (hf ▸ h.opnd 0 f : AVRep cx 0 (.p false [.sl 0 e xs]) (a.eval f))
  have hcr : RepD cx.P cx.w (Forb cx) (.sl e) (.l xs) (a.eval f) := hr.2.2 0 _ (a.eval f) rfl rfl
  rw [h.P] at hcr
  generalize a.eval f = v at hcr
  obtain ⟨c1, c2⟩ := cap_range he
  cases hcr with
  | fn _ _ he' hk' =>
    unfold isFnT at he'
    rw [Bool.and_eq_true] at he'
    exact (Nat.lt_irrefl _ (Nat.lt_of_lt_of_le (Nat.le_of_ble_eq_true he'.2) c1)).elim
  | clo _ _ b he' hk' hF hc => exact (Nat.lt_irrefl _ (Nat.lt_of_lt_of_le c2 (Nat.le_trans (by decide) (Nat.le_of_ble_eq_true he')))).elim
  | pnil _ _ he' => exact (Nat.lt_irrefl _ (Nat.lt_of_lt_of_le c2 (ptr_range he').1)).elim
  | ptr _ _ _ _ he' => exact (Nat.lt_irrefl _ (Nat.lt_of_lt_of_le c2 (ptr_range he').1)).elim
  | cap _ _ vs _ _ hc => exact ⟨vs, rfl, hc⟩
  | nil _ _ ad c h0 hk' =>
    have hb : Nat.blt e 1000000000 = true := by rcases hk' with h1 | h1 <;> omega
    exact (Nat.lt_irrefl _ (Nat.lt_of_lt_of_le (Nat.le_of_ble_eq_true hb) (Nat.le_trans (by decide) c1))).elim
  | sl _ _ b o c n vs hn h0 hm => omega
/-- What a function value in a cell is. -/
theorem Rel.fnCell (h : Rel E w0 X st a cx) {f : Operand} {e : TypeId} {xs : List (List D)} (hf : Ev.opnd E (get st) f = .p false [.sl 0 e xs]) (hk : (kinds E.P e).length = 0) :
    (isFnT e = true → a.eval f = .func (.func (fnOfT e)) #[] #[]) ∧ (isFnT e = false → isCloT e = true → ∃ b, ¬ Forb cx b ∧ cx.w.cell? ⟨b, 0, none⟩ = some (.func (.func (cloG e)) #[] #[]) ∧ a.eval f = .func (.func (cloF e)) #[] #[.pointer (some ⟨b, 0, none⟩)]) := by
  have hr : CellsRep cx 0 0 [.sl 0 e xs] [a.eval f] := (hf ▸ h.opnd 0 f : AVRep cx 0 (.p false [.sl 0 e xs]) (a.eval f))
  have hcr : RepD cx.P cx.w (Forb cx) (.sl e) (.l xs) (a.eval f) := hr.2.2 0 _ (a.eval f) rfl rfl
  rw [h.P] at hcr
  generalize a.eval f = v at hcr
  have hx : isFnT e = true → isCloT e = true → False := by
    intro h1 h2
    unfold isFnT at h1
    unfold isCloT at h2
    rw [Bool.and_eq_true] at h1
    exact Nat.lt_irrefl _ (Nat.lt_of_lt_of_le (Nat.le_of_ble_eq_true h1.2) (Nat.le_trans (by decide) (Nat.le_of_ble_eq_true h2)))
  cases hcr with
  | fn _ _ he hk' => exact ⟨fun _ => rfl, fun h1 => by rw [he] at h1; cases h1⟩
  | clo _ _ b he hk' hF hc => exact ⟨fun h1 => (hx h1 he).elim, fun _ _ => ⟨b, hF, hc, rfl⟩⟩
  | cap _ _ vs he hk' hc =>
    obtain ⟨c1, c2⟩ := cap_range he
    refine ⟨fun h1 => ?_, fun _ h1 => ?_⟩
    · unfold isFnT at h1
      rw [Bool.and_eq_true] at h1
      exact (Nat.lt_irrefl _ (Nat.lt_of_lt_of_le (Nat.le_of_ble_eq_true h1.2) c1)).elim
    · exact (Nat.lt_irrefl _ (Nat.lt_of_lt_of_le c2 (Nat.le_trans (by decide) (Nat.le_of_ble_eq_true h1)))).elim
  | pnil _ _ he hk' =>
    obtain ⟨c1, c2⟩ := ptr_range he
    refine ⟨fun h1 => ?_, fun _ h1 => ?_⟩
    · unfold isFnT at h1
      rw [Bool.and_eq_true] at h1
      exact (Nat.lt_irrefl _ (Nat.lt_of_lt_of_le (Nat.le_of_ble_eq_true h1.2) (Nat.le_trans (by decide) c1))).elim
    · exact (Nat.lt_irrefl _ (Nat.lt_of_lt_of_le c2 (Nat.le_of_ble_eq_true h1))).elim
  | ptr _ _ _ _ he hk' =>
    obtain ⟨c1, c2⟩ := ptr_range he
    refine ⟨fun h1 => ?_, fun _ h1 => ?_⟩
    · unfold isFnT at h1
      rw [Bool.and_eq_true] at h1
      exact (Nat.lt_irrefl _ (Nat.lt_of_lt_of_le (Nat.le_of_ble_eq_true h1.2) (Nat.le_trans (by decide) c1))).elim
    · exact (Nat.lt_irrefl _ (Nat.lt_of_lt_of_le c2 (Nat.le_of_ble_eq_true h1))).elim
  | nil _ _ ad c h0 hk' =>
    have hb : Nat.blt e 1000000000 = true := by rcases hk' with h1 | h1 <;> omega
    have hb' := Nat.le_of_ble_eq_true hb
    refine ⟨fun h1 => ?_, fun _ h1 => ?_⟩
    · unfold isFnT at h1
      rw [Bool.and_eq_true] at h1
      exact (Nat.lt_irrefl _ (Nat.lt_of_lt_of_le hb' (Nat.le_of_ble_eq_true h1.1))).elim
    · have h2 := Nat.le_of_ble_eq_true h1
      exact (Nat.lt_irrefl _ (Nat.lt_of_lt_of_le hb' (Nat.le_trans (by decide) h2))).elim
  | sl _ _ b o c n vs hn h0 hm => omega
theorem Rel.packClo_rep (h : Rel E w0 X st a cx) {F : Nat → Prop} (hF : (∀ b, ¬ F b) ∨ ∀ b, F b → Forb cx b) {qs : List (Nat × List K)} {us : List Value} {dq : List D} (hq : ArgsRep E.P cx.w F qs dq us) : ∀ {ps : List (Nat × List K)} {xs : List Operand} {ds : List D}, ((∀ b, ¬ F b) ∨ xs.any (lends (get st)) = false) → packArgs E (get st) ps xs = some ds → ArgsRep E.P cx.w F (ps ++ qs) (ds ++ dq) (xs.map a.eval ++ us)
  | [], [], ds, _, hp => by
    obtain rfl := Option.some.inj hp
    exact hq
  | [], _ :: _, _, _, hp => by cases hp
  | _ :: _, [], _, _, hp => by cases hp
  | p :: ps, x :: xs, ds, hl, hp => by
    simp only [packArgs] at hp
    split at hp
    · rename_i d ds' h1 h2
      obtain rfl := Option.some.inj hp
      cases h0 : Nat.beq p.2.length 0 with
      | true => rw [h0] at h1; cases h1
      | false =>
        rw [h0, cond_false] at h1
        have hpos : 0 < p.2.length := Nat.pos_of_ne_zero fun e => by rw [e] at h0; cases h0
        obtain ⟨g1, g2⟩ := h.packArg_rep hF (hl.imp id fun hh => by rw [List.any_cons, Bool.or_eq_false_iff] at hh; exact hh.1) h1 hpos (ds' ++ dq)
        rw [List.append_assoc]
        refine ⟨g2, ?_⟩
        rw [← g1, List.drop_left]
        exact h.packClo_rep hF hq (hl.imp id fun hh => by rw [List.any_cons, Bool.or_eq_false_iff] at hh; exact hh.2) h2
    · cases hp
theorem lastCap_spec {pt : List (Nat × List K)} {e : TypeId} (h : lastCap pt e = true) : pt = pt.dropLast ++ [(2, [.sl (1000000000 + cloG e)])] := by
  unfold lastCap at h
  split at h
  · rename_i e' hl
    have h' := Nat.eq_of_beq_eq_true h
    obtain ⟨l, hl'⟩ := List.getLast?_eq_some_iff.1 hl
    rw [hl', List.dropLast_concat, h']
  · cases h
theorem Rel.q_callC (h : Rel E w0 X st a cx) (hE : EnvOk E) (f : Operand) (args : Array Operand) (ts : Array TypeId) (ho : o.op = .call { callee := .value f, args := args, argTypes := ts }) {e : TypeId} {xs : List (List D)} (hf : Ev.opnd E (get st) f = .p false [.sl 0 e xs]) (hk : (kinds E.P e).length = 0) (hfn : isFnT e = false) (hcl : isCloT e = true) {sp : Spec} (hs : E.spec (cloF e) = some sp)
    (hlast : lastCap sp.pt e = true) (hkf : (kinds E.P (1000000000 + cloG e)).length = 0) (hl : (shares E.P sp.rt && args.toList.any (lends (get st))) = false) {ds t : List D} (hp : packArgs E (get st) sp.pt.dropLast args.toList = some ds) (hG : sp.G (ds ++ [.l []]) = some t) : Goal E o a cx (mkR sp.rt t) := by
  obtain ⟨b, hb, hc, hv⟩ := (h.fnCell hf hk).2 hfn hcl
  have hpt := lastCap_spec hlast
  have hg : cloG e < 100000 := Nat.mod_lt _ (by decide)
  have hm : isMut sp = false := by
    unfold isMut
    rw [hpt, List.any_append, packArgs_noMut hp]
    rfl
  refine h.q_callV hE f args ts ho (caps := [.pointer (some ⟨b, 0, none⟩)]) hv hs hm (fun F hF => ?_) hG
  have hFb : ¬ F b := by
    rcases hF with hF | ⟨_, hF⟩
    · exact hF b
    · exact fun hh => hb (hF b hh)
  have hq : ArgRep E.P cx.w F (2, [.sl (1000000000 + cloG e)]) [.l []] (.pointer (some ⟨b, 0, none⟩)) := by
    refine ⟨b, 0, [.func (.func (cloG e)) #[] #[]], rfl, Nat.one_pos, hFb, fun j u hj => ?_, rfl, fun j k u h1 h2 => ?_⟩
    · cases j with
      | zero => obtain rfl := Option.some.inj hj; exact hc
      | succ j => simp at hj
    · cases j with
      | zero =>
        obtain rfl := Option.some.inj h1
        obtain rfl := Option.some.inj h2
        have he : isFnT (1000000000 + cloG e) = true := by
          unfold isFnT
          rw [Bool.and_eq_true]
          exact ⟨Nat.ble_eq_true_of_le (by omega), Nat.ble_eq_true_of_le (by omega)⟩
        have := RepD.fn (P := E.P) (w := cx.w) (F := F) (1000000000 + cloG e) ([D.l []].getD 0 .j) he hkf
        rw [show fnOfT (1000000000 + cloG e) = cloG e by unfold fnOfT; omega] at this
        exact this
      | succ j => simp at h1
  rw [hpt]
  rcases hF with hF | ⟨hsh, hF⟩
  · exact h.packClo_rep (.inl hF) (qs := [_]) (us := [_]) ⟨hq, trivial⟩ (.inl hF) hp
  · rw [hsh, Bool.true_and] at hl
    exact h.packClo_rep (.inr hF) (qs := [_]) (us := [_]) ⟨hq, trivial⟩ (.inr hl) hp
theorem capDs_length (rows : List (List D)) : ∀ n i, (capDs rows n i).length = n
  | 0, _ => rfl
  | n + 1, i => by simp [capDs, capDs_length rows n]
theorem capDs_add (rows : List (List D)) : ∀ n m i, capDs rows (n + m) i = capDs rows n i ++ capDs rows m (i + n)
  | 0, m, i => by simp [capDs]
  | n + 1, m, i => by
    rw [Nat.add_right_comm]
    simp only [capDs, capDs_add rows n m (i + 1), List.cons_append]
    rw [show i + 1 + n = i + (n + 1) by omega]
theorem capDs_get (rows : List (List D)) : ∀ n i j, j < n → (capDs rows n i)[j]? = some (.i (ri rows 0 (i + j)))
  | 0, _, _, h => by omega
  | n + 1, i, 0, _ => rfl
  | n + 1, i, j + 1, h => by
    rw [capDs, List.getElem?_cons_succ, capDs_get rows n (i + 1) j (by omega), show i + 1 + j = i + (j + 1) by omega]
theorem caps_rep {P : Program} {w : World} {F : Nat → Prop} {rows : List (List D)} {ls : List Nat} {i : Nat} {vs : List Value} (h : CapsAt w F rows ls i vs) : ∀ {qs : List (Nat × List K)}, capsOk qs ls = true → ArgsRep P w F qs (capDs rows ls.sum i) vs := by
  induction h with
  | nil i =>
    intro qs hq
    cases qs with
    | nil => exact trivial
    | cons p qs => simp [capsOk] at hq
  | cons n ns i b o vs h0 hF hc hr ih =>
    intro qs hq
    cases qs with
    | nil => simp [capsOk] at hq
    | cons p qs =>
    simp only [capsOk, Bool.and_eq_true] at hq
    obtain ⟨⟨h1, h2, h3⟩, h4⟩ := hq
    obtain ⟨f, ks⟩ := p
    obtain rfl : f = 2 := Nat.eq_of_beq_eq_true h1
    replace h2 : ks.length = n := Nat.eq_of_beq_eq_true h2
    replace h3 : ks.all isI64 = true := h3
    clear h1
    rw [List.sum_cons, capDs_add]
    refine ⟨⟨b, o, (List.range n).map fun j => .int .i64 (ri rows 0 (i + j)), rfl, (show 0 < ks.length by rw [h2]; exact h0), hF, fun j u hj => ?_, (show ((List.range n).map _).length = ks.length by rw [h2]; simp), fun j k u h5 h6 => ?_⟩, ?_⟩
    · rw [List.getElem?_map] at hj
      obtain ⟨j', hj', rfl⟩ := Option.map_eq_some_iff.1 hj
      obtain ⟨h5, h6⟩ := List.getElem?_eq_some_iff.1 hj'
      simp at h5 h6
      subst h6
      exact hc j h5
    · rw [List.getElem?_map] at h6
      obtain ⟨j', hj', rfl⟩ := Option.map_eq_some_iff.1 h6
      obtain ⟨h7, h8⟩ := List.getElem?_eq_some_iff.1 hj'
      simp at h7 h8
      subst h8
      have hk := List.all_eq_true.1 h3 k (List.mem_of_getElem? h5)
      have hk' : k = .int .i64 := by
        unfold isI64 at hk
        split at hk
        · rfl
        · cases hk
      subst hk'
      rw [List.getD_eq_getElem?_getD, List.getElem?_append_left (by rw [capDs_length]; exact h7), capDs_get rows n i j h7]
      exact .int .i64 (.i (ri rows 0 (i + j)))
    · have : ((capDs rows n i ++ capDs rows ns.sum (i + n)).drop ks.length) = capDs rows ns.sum (i + n) := by
        rw [h2]
        conv => lhs; arg 1; rw [← capDs_length rows n i]
        exact List.drop_left ..
      show ArgsRep P w F qs ((capDs rows n i ++ capDs rows ns.sum (i + n)).drop ks.length) vs
      rw [this]
      exact ih h4
theorem capsOk_noMut : ∀ {qs : List (Nat × List K)} {ls : List Nat}, capsOk qs ls = true → (qs.any fun p => isW p.1) = false
  | [], _, _ => rfl
  | p :: qs, [], h => by simp [capsOk] at h
  | p :: qs, n :: ls, h => by
    simp only [capsOk, Bool.and_eq_true] at h
    rw [List.any_cons, capsOk_noMut h.2, Bool.or_false, Nat.eq_of_beq_eq_true h.1.1]
    rfl
theorem Rel.q_callCap (h : Rel E w0 X st a cx) (hE : EnvOk E) (f : Operand) (args : Array Operand) (ts : Array TypeId) (ho : o.op = .call { callee := .value f, args := args, argTypes := ts }) {e : TypeId} {xs : List (List D)} (hf : Ev.opnd E (get st) f = .p false [.sl 0 e xs]) (hk : (kinds E.P e).length = 0) (hcl : isCapT e = true) {sp : Spec} (hs : E.spec (capF e) = some sp)
    (hok : capsOk (sp.pt.drop args.toList.length) (lay e) = true) (hl : (shares E.P sp.rt && args.toList.any (lends (get st))) = false) {ds t : List D} (hp : packArgs E (get st) (sp.pt.take args.toList.length) args.toList = some ds) (hG : sp.G (ds ++ capDs xs (lay e).sum 0) = some t) : Goal E o a cx (mkR sp.rt t) := by
  obtain ⟨vs, hv, hat⟩ := h.capCell hf hk hcl
  have hm : isMut sp = false := by
    unfold isMut
    rw [← List.take_append_drop args.toList.length sp.pt, List.any_append, packArgs_noMut hp, capsOk_noMut hok]
    rfl
  refine h.q_callV hE f args ts ho (caps := vs) hv hs hm (fun F hF => ?_) hG
  have hat' : CapsAt cx.w F xs (lay e) 0 vs := by
    refine hat.change fun b _ hb => ⟨rfl, fun hFb => ?_⟩
    rcases hF with hF | ⟨_, hF⟩
    · exact hF b hFb
    · exact hb (hF b hFb)
  have hq := caps_rep (P := E.P) hat' hok
  rw [← List.take_append_drop args.toList.length sp.pt]
  rcases hF with hF | ⟨hsh, hF⟩
  · exact h.packClo_rep (.inl hF) hq (.inl hF) hp
  · rw [hsh, Bool.true_and] at hl
    exact h.packClo_rep (.inr hF) hq (.inr hl) hp
/-! ### A function is made -/
theorem layEq_spec : ∀ {a b : List Nat}, layEq a b = true → a = b
  | [], [], _ => rfl
  | [], _ :: _, h => by cases h
  | _ :: _, [], h => by cases h
  | a :: as, b :: bs, h => by
    simp only [layEq, Bool.and_eq_true] at h
    rw [Nat.eq_of_beq_eq_true h.1, layEq_spec h.2]
theorem Rel.capRows_at (h : Rel E w0 X st a cx) {rows : List (List D)} : ∀ {xs : List Operand} {ns : List Int} {ls : List Nat} {i : Nat}, capRows (xs.map (Ev.opnd E (get st))) = some (ns, ls) → (∀ q, q < ns.length → ri rows 0 (i + q) = ns.getD q 0) → CapsAt cx.w (Forb cx) rows ls i (xs.map a.eval)
  | [], _, _, _, hc, _ => by
    obtain ⟨rfl, rfl⟩ := Prod.mk.inj (Option.some.inj hc)
    exact .nil _
  | x :: xs, ns, ls, i, hc, hr => by
    rw [List.map_cons] at hc
    unfold capRows at hc
    split at hc
    · rename_i heq; cases heq
    · rename_i cs rest heq
      obtain ⟨hx, rfl⟩ := List.cons.inj heq
      split at hc
      · rename_i n1 rs l1 h1 h2
        obtain ⟨rfl, rfl⟩ := Prod.mk.inj (Option.some.inj hc)
        obtain ⟨l, hl, hns⟩ := Option.bind_eq_some_iff.1 h1
        have hl' := allV_spec hl
        have hll := intsOf_spec hns
        obtain ⟨b, off, vs, hv, hpos, hno, hF, hcell, hrep⟩ := (hx ▸ h.opnd 0 x : AVRep cx 0 (.ro cs 0) (a.eval x))
        have hlen : cs.length = n1.length := by rw [hl', hll]; simp
        rw [List.map_cons, hv]
        refine .cons n1.length l1 i b (off + 0) _ (by omega) hF (fun j hj => ?_) ?_
        · have hjv : j < vs.length := by rw [← hrep.1]; omega
          have h3 := List.getElem?_eq_getElem hjv
          have h4 : cs[j]? = some (.v (.int .i64 (n1.getD j 0))) := by
            rw [hl', hll, List.getElem?_map, List.getElem?_map, List.getElem?_eq_getElem hj, List.getD_eq_getElem?_getD, List.getElem?_eq_getElem hj]; rfl
          have h5 : vs[j] = .int .i64 (n1.getD j 0) := hrep.2.2 j _ _ h4 h3
          rw [Nat.add_zero, hcell j _ h3, h5, hr j (by rw [List.length_append]; omega)]
          congr 2
          rw [List.getD_eq_getElem?_getD, List.getD_eq_getElem?_getD, List.getElem?_append_left hj]
        · refine h.capRows_at h2 fun q hq => ?_
          rw [show i + n1.length + q = i + (n1.length + q) by omega, hr (n1.length + q) (by rw [List.length_append]; omega), List.getD_eq_getElem?_getD, List.getD_eq_getElem?_getD, List.getElem?_append_right (Nat.le_add_right ..), Nat.add_sub_cancel_left]
      · cases hc
    · cases hc
theorem Rel.q_makeFunc (h : Rel E w0 X st a cx) (f : Nat) (bs caps : Array Operand) (ho : o.op = .makeFunc (.func f) bs caps) (hb : bs.toList = []) {ns : List Int} {ls : List Nat} (hc : capRows (caps.toList.map (Ev.opnd E (get st))) = some (ns, ls)) (h1 : isCapT (capT f ls) = true) (h2 : capF (capT f ls) = f) (h3 : lay (capT f ls) = ls) (h4 : (kinds E.P (capT f ls)).length = 0) : Goal E o a cx (.p false [.sl 0 (capT f ls) [ns.map .i]]) := by
  have hb' : bs = #[] := by rw [← Array.toArray_toList (xs := bs), hb]
  subst hb'
  have hat := h.capRows_at (rows := [ns.map .i]) (i := 0) hc (fun q hq => by
    show ((ns.map D.i).getD (0 + q) .j).int = _
    rw [Nat.zero_add, List.getD_eq_getElem?_getD, List.getElem?_map, List.getElem?_eq_getElem hq, List.getD_eq_getElem?_getD, List.getElem?_eq_getElem hq]; rfl)
  refine Goal.same (v := .func (.func f) #[] (caps.toList.map a.eval).toArray) ?_ (fun d => ⟨rfl, fun v hv => by obtain rfl := List.mem_singleton.1 hv; rfl, fun j c v hc hv => ?_⟩) rfl
  · have e1 : caps.map a.eval = (caps.toList.map a.eval).toArray := by apply Array.ext'; simp
    have e2 : (#[] : Array Operand).map a.eval = #[] := by simp
    simp only [execOp, ho]
    rw [e1, e2]
    simp [Instr.makeFunc, Sem.run]
  · cases j with
    | succ j => simp at hc
    | zero =>
      obtain rfl := Option.some.inj hc
      obtain rfl := Option.some.inj hv
      show RepD cx.P cx.w (Forb cx) (.sl (capT f ls)) (.l [ns.map .i]) _
      have := RepD.cap (P := cx.P) (w := cx.w) (F := Forb cx) (capT f ls) (.l [ns.map .i]) (caps.toList.map a.eval) h1 (by rw [h.P]; exact h4) (by rw [h3]; exact hat)
      rw [h2] at this
      exact this
theorem opt_run {α : Type} {x : Option (List D)} {f : List D → Br α} {y : α} (h : (Br.opt x f).run = some y) : ∃ t, x = some t ∧ (f t).run = some y := by
  cases x with
  | none => cases h
  | some t => exact ⟨t, rfl, h⟩
theorem bif_run {α : Type} {b : Bool} {x : Br α} {y : α} (h : (bif b then x else Br.none).run = some y) : b = true ∧ x.run = some y := by
  cases b with
  | true => exact ⟨rfl, h⟩
  | false => cases h
theorem bif_run' {α : Type} {b : Bool} {x : Br α} {y : α} (h : (bif b then Br.none else x).run = some y) : b = false ∧ x.run = some y := by
  cases b with
  | false => exact ⟨rfl, h⟩
  | true => cases h
theorem ret_run {α : Type} {x y : α} (h : (Br.ret x).run = some y) : x = y := Option.some.inj h
theorem guard_agg {P : Program} {op : BinOp} {t : TypeId} {x y : Operand} {p q : Array Value} (hg : P.eqGuardType P.depth t = false) (w : World) : (eqGuard op t x y (.agg p) (.agg q)).run P w = .ok () w := by
  unfold eqGuard
  cases op <;> first | rfl | (simp [program, Sem.run, hg]; done)
def evBin (E : Env) (g : Nat → AV) (o : Oper) (op : BinOp) (t : TypeId) (x y : Operand) : Br AV :=
  match op, plainV (Ev.opnd E g x), plainV (Ev.opnd E g y) with
    | .quo, some (.int k a), some (.int k' b) => bif decide (k = k') then .br (decide (b = 0)) .none (.ret (.p false [.v (.int k (k.wrap (a.tdiv b)))])) else .none
    | .rem, some (.int k a), some (.int k' b) => bif decide (k = k') then .br (decide (b = 0)) .none (.ret (.p false [.v (.int k (a.tmod b))])) else .none
    | .shl, some (.int k a), some (.int _ b) => .br (decide (b < 0)) .none (.ret (.p false [.v (.int k (k.wrap (a * 2 ^ min b.toNat k.bits)))]))
    | .shr, some (.int k a), some (.int _ b) => .br (decide (b < 0)) .none (.ret (.p false [.v (.int k (a.fdiv (2 ^ min b.toNat k.bits)))]))
    | .add, some (.string a), some (.string b) => .br (decide (a.size + b.size ≤ 140737488355328)) (.ret (.p false [.v (.string (a ++ b))])) .none
    | .eql, some (.agg a), some (.agg b) => match eqV E Op.maxDepth t (.agg a) (.agg b) with
      | some r => bif E.P.eqGuardType E.P.depth t then .none else .ret (.p false [.v (.bool r)])
      | none => .none
    | .neq, some (.agg a), some (.agg b) => match eqV E Op.maxDepth t (.agg a) (.agg b) with
      | some r => bif E.P.eqGuardType E.P.depth t then .none else .ret (.p false [.v (.bool !r)])
      | none => .none
    | _, some _, some _ => evPlain E g o
    | _, _, _ => .none
theorem Rel.q_binop (h : Rel E w0 X st a cx) (op : BinOp) (t : TypeId) (x y : Operand) (yt : TypeId) (ho : o.op = .binOp op t x y yt) (hav : (evBin E (get st) o op t x y).run = some av) : Goal E o a cx av := by
  unfold evBin at hav
  split at hav
  · rename_i k a' k' b hp hq
    obtain ⟨hk, hav2⟩ := bif_run hav
    obtain rfl : k = k' := of_decide_eq_true hk
    obtain ⟨hb, hav⟩ := br_run' hav2
    rw [← ret_run hav]
    refine h.q_bin _ t x y yt ho hp hq ?_ rfl
    have hb0 : b ≠ 0 := of_decide_eq_false hb
    simp [guard_quiet, binOp, Op.intDiv, hb0]
  · rename_i k a' k' b hp hq
    obtain ⟨hk, hav2⟩ := bif_run hav
    obtain rfl : k = k' := of_decide_eq_true hk
    obtain ⟨hb, hav⟩ := br_run' hav2
    rw [← ret_run hav]
    refine h.q_bin _ t x y yt ho hp hq ?_ rfl
    have hb0 : b ≠ 0 := of_decide_eq_false hb
    simp [guard_quiet, binOp, Op.intDiv, hb0]
  · rename_i k a' k' b hp hq
    obtain ⟨hb, hav⟩ := br_run' hav
    rw [← ret_run hav]
    refine h.q_bin _ t x y yt ho hp hq ?_ rfl
    have hb0 : ¬ b < 0 := of_decide_eq_false hb
    simp only [Sem.run_bind, guard_quiet .shl _ _ _ _ _ (by simp), Result.andThen_ok, binOp, Op.shift, if_neg hb0, Sem.run_pure]
  · rename_i k a' k' b hp hq
    obtain ⟨hb, hav⟩ := br_run' hav
    rw [← ret_run hav]
    refine h.q_bin _ t x y yt ho hp hq ?_ rfl
    have hb0 : ¬ b < 0 := of_decide_eq_false hb
    simp only [Sem.run_bind, guard_quiet .shr _ _ _ _ _ (by simp), Result.andThen_ok, binOp, Op.shift, if_neg hb0, Sem.run_pure]
  · rename_i p q hp hq
    obtain ⟨hb, hav⟩ := br_run hav
    rw [← ret_run hav]
    refine h.q_bin _ t x y yt ho hp hq ?_ rfl
    have hb0 : p.size + q.size ≤ 140737488355328 := of_decide_eq_true hb
    have hn : ¬ (((p.size + q.size : Nat) : Int) > IntKind.i64.max) := by
      have : IntKind.i64.max = 9223372036854775807 := by decide
      omega
    simp only [Sem.run_bind, guard_quiet .add _ _ _ _ _ (by simp), Result.andThen_ok, binOp, Op.stringOp, if_neg hn, Sem.run_pure]
  · rename_i p q hp hq
    split at hav
    · rename_i r hr
      obtain ⟨hg, hav⟩ := bif_run' hav
      rw [← ret_run hav]
      refine h.q_bin _ t x y yt ho hp hq ?_ rfl
      simp only [Sem.run_bind, guard_agg hg, Result.andThen_ok, binOp, Op.equal, eqV_run _ _ _ _ _ hr, Sem.run_pure]
    · cases hav
  · rename_i p q hp hq
    split at hav
    · rename_i r hr
      obtain ⟨hg, hav⟩ := bif_run' hav
      rw [← ret_run hav]
      refine h.q_bin _ t x y yt ho hp hq ?_ rfl
      simp only [Sem.run_bind, guard_agg hg, Result.andThen_ok, binOp, Op.equal, eqV_run _ _ _ _ _ hr, Sem.run_pure]
    · cases hav
  · exact h.q_plain (by rw [ho]; simp) hav
  · cases hav
theorem brIdx_run {i : Int} {f : Nat → AV} {av : AV} : ∀ (n j : Nat), (brIdx i f n j).run = some av → ∃ q, q < j + n ∧ i = (q : Int) ∧ av = f q
  | 0, j, h => by cases h
  | n + 1, j, h => by
    have h' : (bif decide (i = (j : Int)) then some (f j) else (brIdx i f n (j + 1)).run) = some av := h
    by_cases hi : i = (j : Int)
    · rw [decide_eq_true hi, cond_true] at h'
      exact ⟨j, by omega, hi, (Option.some.inj h').symm⟩
    · rw [decide_eq_false hi, cond_false] at h'
      obtain ⟨q, h1, h2, h3⟩ := brIdx_run n (j + 1) h'
      exact ⟨q, by omega, h2, h3⟩
theorem run_indexAt {P : Program} {w : World} {t e : TypeId} {n : Nat} {kd : IntKind} {q b o : Nat} {x ix : Value} (hx : x = .pointer (some ⟨b, o, none⟩)) (hix : ix = .int kd (q : Int)) (ht : P.underlying t = some (.array n e)) (h1 : 1 < n) (hq : q < n) (h0 : 0 < sizeP P e) :
    (Instr.indexAt t x ix).run P w = .ok (.pointer (some ⟨b, o + q * sizeP P e, none⟩)) w := by
  subst hx hix
  have hc : 0 ≤ (q : Int) ∧ (q : Int) < (n : Int) := ⟨by omega, by omega⟩
  simp only [Instr.indexAt, Instr.sureAddr, asIntOf, Sem.run_bind, Sem.run_pure, Result.andThen_ok, run_underlying ht, Sem.run_ite, if_pos hc, run_sizeOf (Nat.pos_iff_ne_zero.1 h0), addr_add, Int.toNat_natCast]
theorem Rel.q_idxpat (h : Rel E w0 X st a cx) (t e : TypeId) (x ix : Operand) (ho : o.op = .indexAddr t x ix) {d p n q : Nat} {kd : IntKind} (hx : Ev.opnd E (get st) x = .pat d p) (hi : plainV (Ev.opnd E (get st) ix) = some (.int kd (q : Int))) (ht : E.P.underlying t = some (.array n e)) (h1 : 1 < n) (hq : q < n) (h0 : 0 < sizeP E.P e) : Goal E o a cx (.pat d (p + q * sizeP E.P e)) := by
  obtain ⟨b, hb, hv⟩ := (hx ▸ h.opnd 0 x : AVRep cx 0 (.pat d p) (a.eval x))
  refine Goal.same (v := .pointer (some ⟨b, p + q * sizeP E.P e, none⟩)) ?_ (fun _ => ⟨b, hb, rfl⟩) rfl
  simp only [execOp, ho, Sem.run_bind, run_indexAt hv (h.plain hi) ht h1 hq h0, Result.andThen_ok, Sem.run_pure]
theorem allV_get {cs : List Cell} {l : List Value} (h : allV cs = some l) : cs = l.map .v := allV_spec h
theorem Rel.q_idxro (h : Rel E w0 X st a cx) (t e : TypeId) (x ix : Operand) (ho : o.op = .indexAddr t x ix) {cs : List Cell} {n : Nat} {i : Int} {kd : IntKind} (hx : Ev.opnd E (get st) x = .ro cs 0) (hi : plainV (Ev.opnd E (get st) ix) = some (.int kd i)) (ht : E.P.underlying t = some (.array n e)) (hn : cs.length = n) (h1 : 1 < n) (hs : sizeP E.P e = 1) (hb : (decide (0 ≤ i) && decide (i < (n : Int))) = true) {u : Value} (hu : cs[i.toNat]? = some (.v u)) : Goal E o a cx (.ro [.v u] 0) := by
  obtain ⟨b, off, vs, hv, hpos, hno, hF, hcell, hrep⟩ := (hx ▸ h.opnd 0 x : AVRep cx 0 (.ro cs 0) (a.eval x))
  simp only [Bool.and_eq_true, decide_eq_true_eq] at hb
  obtain ⟨q, rfl⟩ : ∃ q : Nat, i = (q : Int) := ⟨i.toNat, (Int.toNat_of_nonneg hb.1).symm⟩
  have hq : q < n := by omega
  rw [Int.toNat_natCast] at hu
  rw [Nat.add_zero] at hv
  have hvl : q < vs.length := by rw [← hrep.1]; omega
  have hvq := List.getElem?_eq_getElem hvl
  have huv : vs[q] = u := hrep.2.2 q _ _ hu hvq
  refine Goal.same (v := .pointer (some ⟨b, off + q * sizeP E.P e, none⟩)) ?_ (fun d => ⟨b, off + q * sizeP E.P e, [u], rfl, by simp, rfl, hF, fun j v hj => ?_, rfl, fun v hv => ?_, fun j c v hc hv => ?_⟩) rfl
  · simp only [execOp, ho, Sem.run_bind, run_indexAt hv (h.plain hi) ht h1 hq (by omega), Result.andThen_ok, Sem.run_pure]
  · cases j with
    | zero =>
      obtain rfl := Option.some.inj hj
      rw [hs, Nat.mul_one, Nat.add_zero]
      exact hcell q _ (by rw [hvq, huv])
    | succ j => simp at hj
  · obtain rfl := List.mem_singleton.1 hv
    exact hrep.2.1 _ (List.mem_iff_getElem.2 ⟨q, hvl, huv⟩)
  · cases j with
    | zero => obtain rfl := Option.some.inj hc; obtain rfl := Option.some.inj hv; rfl
    | succ j => simp at hc
theorem kinds_int {P : Program} {e : TypeId} {k : IntKind} (he : P.underlying e = some (.int k)) : kinds P e = [.int k] := by
  have h1 : cellTypes P 9 e = [e] := by simp only [cellTypes, he]
  have h2 : kindOf P e = some (.int k) := by simp only [kindOf, he]
  simp only [kinds, h1, kindsOf, h2]; rfl
theorem foldl_bytes : ∀ (ns : List Int) (s : ByteArray), ns.foldl (fun r n => r.push (UInt8.ofNat n.toNat)) s = ⟨s.data ++ (ns.map fun n => UInt8.ofNat n.toNat).toArray⟩
  | [], s => by cases s; simp
  | n :: ns, s => by
    rw [List.foldl_cons, foldl_bytes ns]
    cases s
    simp [ByteArray.push]
theorem Rel.q_conv (h : Rel E w0 X st a cx) (s t e : TypeId) (x : Operand) (ho : o.op = .convert s t x) {c : Cell} (hx : Ev.opnd E (get st) x = .p false [c]) (hs : E.P.underlying s = some (.slice e)) (ht : E.P.underlying t = some .string) (he : E.P.underlying e = some (.int .u8)) (hz : sizeP E.P e = 1) {own : Nat} {xs : List (List D)} (hc : res (get st) c = .sl own e xs) : Goal E o a cx (.p false [.v (.string (bytesD xs))]) := by
  have hr : CellsRep cx 0 0 [c] [a.eval x] := (hx ▸ h.opnd 0 x : AVRep cx 0 (.p false [c]) (a.eval x))
  have hno := opnd_cells_noOwn E (get st) h.glob x (cs := [c]) (by rw [hx]; rfl) c (by simp)
  have hp : packCell (.sl e) (res (get st) c) = some (.l xs) := by rw [hc]; simp [packCell]
  have hF : ∀ b, ¬ (fun _ : Nat => False) b := fun b => id
  have hrep := h.lent (F := fun _ => False) (.inl hF) hp hno (.inl hF) (hr.2.2 0 c (a.eval x) rfl rfl)
  refine Goal.same (v := .string (bytesD xs)) ?_ (fun d => ⟨rfl, fun v hv => by obtain rfl := List.mem_singleton.1 hv; rfl, fun j c v h1 h2 => by
    cases j with
    | zero => obtain rfl := Option.some.inj h1; obtain rfl := Option.some.inj h2; rfl
    | succ j => simp at h1⟩) rfl
  generalize hv : a.eval x = v at hrep
  have hk := kinds_int he
  cases hrep with
  | fn _ _ he hk' => rw [hk] at hk'; cases hk'
  | clo _ _ b he hk' hF' hcl => rw [hk] at hk'; cases hk'
  | cap _ _ _ he hk' => rw [hk] at hk'; cases hk'
  | pnil _ _ he hk' => rw [hk] at hk'; cases hk'
  | ptr _ _ _ _ he hk' => rw [hk] at hk'; cases hk'
  | nil _ _ a' c' h0 =>
    have : xs = [] := h0
    subst this
    simp only [execOp, ho, hv, Sem.run_bind, run_convert_bytes_string cx.w s t e a' 0 c' hs he ht]
    cases a' with
    | none => rfl
    | some a' =>
      rw [run_bytesToString cx.w a' 0 c' [] (by rfl)]; rfl
  | sl _ _ b off cp n vs hn hn0 hm hF hcells hrr =>
    have hn' : n = xs.length := hn
    have hc1 : (loadCells ⟨b, off, none⟩ n).run E.P cx.w = .ok ((xs.map fun r => gi r 0).map (Value.int .u8)).toArray cx.w := by
      have hl : ((xs.map fun r => gi r 0).map (Value.int .u8)).length = n := by simp [hn']
      have := run_loadCells_list (P := E.P) (w := cx.w) ⟨b, off, none⟩ ((xs.map fun r => gi r 0).map (Value.int .u8)) (fun j u hj => ?_)
      · rw [hl] at this; exact this
      · rw [addr_add]
        have hj' : j < n := by rw [← hl]; exact (List.getElem?_eq_some_iff.1 hj).1
        have h1 := hcells j 0 hj' (by rw [hk]; simp)
        rw [hk] at h1
        simp only [List.length_singleton, Nat.mul_one, Nat.add_zero] at h1
        rw [h1]
        have h2 := hrr j 0 (.int .u8) hj' (by rw [hk]; rfl)
        have hjx : j < xs.length := by omega
        rw [List.getElem?_map, List.getElem?_map, List.getElem?_eq_getElem hjx] at hj
        have hj2 : Value.int .u8 (gi xs[j] 0) = u := Option.some.inj hj
        rw [← hj2]
        generalize vs j 0 = q at h2
        cases h2
        have e1 : (D.l xs).rows.getD j [] = xs[j] := by
          show xs.getD j [] = _
          rw [List.getD_eq_getElem?_getD, List.getElem?_eq_getElem hjx]; rfl
        rw [e1]; rfl
    simp only [execOp, ho, hv, Sem.run_bind, run_convert_bytes_string cx.w s t e _ n cp hs he ht, run_bytesToString cx.w _ n cp _ hc1, Result.andThen_ok, Sem.run_pure, foldl_bytes]
    congr 2
    simp [bytesD, List.map_map, Function.comp_def]
theorem Rel.q_bytes (h : Rel E w0 X st a cx) (s t e : TypeId) (x : Operand) (ho : o.op = .convert s t x) {b : ByteArray} (hx : Ev.opnd E (get st) x = .p false [.v (.string b)]) (hs : E.P.underlying s = some .string) (ht : E.P.underlying t = some (.slice e)) (he : E.P.underlying e = some (.int .u8)) : Goal E o a cx (.p false [.sl 0 e (bytesR b)]) := by
  have hv : a.eval x = .string b := h.plain (by rw [hx]; rfl)
  have hk := kinds_int he
  have hlen : (bytesR b).length = b.size := by unfold bytesR; simp
  have hb : Below cx.w.heap.size cx.w (Go.Lib.bytesWorld cx.w e b) := by
    refine ⟨by simp [Go.Lib.bytesWorld, World.freeze, World.alloc, World.drew, -World.alloc_eq, -World.drew_eq], by simp [Go.Lib.bytesWorld, World.freeze, World.alloc, World.drew, -World.alloc_eq, -World.drew_eq], by simp [Go.Lib.bytesWorld, World.freeze, World.alloc, World.drew, -World.alloc_eq, -World.drew_eq], by rw [Go.Lib.bytesWorld_size]; exact Nat.le_succ _, fun q hq => Go.Lib.bytesWorld_at_old cx.w e b q hq⟩
  refine .inl ⟨.slice (some ⟨cx.w.heap.size, 0, none⟩) b.size (grownCap cx.w b.size 0 e), Go.Lib.bytesWorld cx.w e b, by simp only [execOp, ho, hv, Sem.run_bind, Go.Lib.run_convert_string_bytes cx.w s t e b hs ht he, Result.andThen_ok, Sem.run_pure], hb, fun _ d => ⟨rfl, fun v hv => by obtain rfl := List.mem_singleton.1 hv; rfl, fun j c v h1 h2 => ?_⟩, fun h => by simp [owner, isOwn] at h⟩
  cases j with
  | succ j => simp at h1
  | zero =>
    obtain rfl := Option.some.inj h1
    obtain rfl := Option.some.inj h2
    show RepD cx.P (Go.Lib.bytesWorld cx.w e b) _ (.sl e) (.l (bytesR b)) _
    rw [h.P]
    by_cases h0 : b.size = 0
    · rw [h0]
      exact .nil e _ _ _ (List.eq_nil_of_length_eq_zero (hlen.trans h0)) (.inr (by rw [hk]; exact Nat.one_pos))
    · refine .sl e (.l (bytesR b)) cx.w.heap.size 0 _ b.size (fun i _ => .int .u8 (b.data.toList.getD i 0).toNat) hlen.symm (Nat.pos_of_ne_zero h0) (by rw [hk]; exact Nat.one_pos) ?_ (fun i j hi hj => ?_) (fun i j k hi hkj => ?_) (grownCap_ge cx.w b.size 0 e)
      · rintro (hN | ⟨p, hp⟩)
        · exact Nat.lt_irrefl _ (Nat.lt_of_lt_of_le (h.non _ hN).1 h.kept.size)
        · exact Nat.lt_irrefl _ (h.own _ p hp).1
      · rw [hk] at hj ⊢
        have : j = 0 := by simpa using hj
        subst this
        rw [show 0 + (i * [K.int .u8].length + 0) = i by simp]
        exact Go.Lib.bytesWorld_cell cx.w e b i hi
      · rw [hk] at hkj
        cases j with
        | succ j => simp at hkj
        | zero =>
          obtain rfl := Option.some.inj hkj
          have hi' : i < b.data.toList.length := by simpa using hi
          have e1 : (D.l (bytesR b)).rows.getD i [] = [.i ((b.data.toList.getD i 0).toNat : Int)] := by
            show (bytesR b).getD i [] = _
            unfold bytesR
            rw [List.getD_eq_getElem?_getD, List.getElem?_map, List.getElem?_eq_getElem hi', List.getD_eq_getElem?_getD, List.getElem?_eq_getElem hi']; rfl
          rw [e1]
          exact .int .u8 (.i _)
theorem evQ_sound (h : Rel E w0 X st a cx) (hE : EnvOk E) (hm : ∀ c, o.op = .call c → ∀ f n sp, c.callee = .value f → Ev.opnd E (get st) f = .fn n → E.spec n = some sp → isMut sp = false) (hav : (evQ E (get st) o).run = some av) : Goal E o a cx av := by
  unfold evQ at hav
  split at hav
  · rename_i x ho; exact h.q_move x (.inl ho) hav
  · rename_i x ho; exact h.q_move x (.inr ho) hav
  · rename_i c x y ho
    split at hav
    · rename_i t hc; exact h.q_pick c x y ho hc hav
    · cases hav
  · rename_i e ho
    split at hav
    · rename_i cs hz; rw [← ret_run hav]; exact h.q_alloc e ho hz
    · cases hav
  · rename_i e x ho
    split at hav
    · rename_i cs hz
      cases hro : roDst E o.dst with
      | false =>
        rw [hro, cond_false] at hav
        rw [← ret_run hav]; exact h.q_box e x ho hz
      | true =>
        rw [hro, cond_true] at hav
        split at hav
        · obtain ⟨h0, hav⟩ := bif_run hav
          rw [← ret_run hav]; exact h.q_boxro e x ho hz (Nat.le_of_ble_eq_true h0)
        · cases hav
    · cases hav
  · rename_i f bs caps ho
    split at hav
    · rename_i ns ls hb hc
      obtain ⟨hk, hav⟩ := bif_run hav
      simp only [Bool.and_eq_true] at hk
      rw [← ret_run hav]
      exact h.q_makeFunc f bs caps ho hb hc hk.1.1 (Nat.eq_of_beq_eq_true hk.1.2) (layEq_spec hk.2.1) (Nat.eq_of_beq_eq_true hk.2.2)
    · cases hav
  · rename_i t parts ho
    obtain ⟨hok, hav⟩ := bif_run' hav
    split at hav
    · rename_i z hz
      split at hav
      · rename_i cs hf; rw [← ret_run hav]; exact h.q_build t parts ho (by simpa using hok) hz hf
      · cases hav
    · cases hav
  · rename_i t x ho; exact h.q_load t x ho hav
  · rename_i x ho
    split at hav
    · rename_i d n e; exact h.q_nilCheck x ho (.inl ⟨d, n, e⟩) (e.trans (ret_run hav))
    · rename_i d j i n e; exact h.q_nilCheck x ho (.inr (.inl ⟨d, j, i, n, e⟩)) (e.trans (ret_run hav))
    · rename_i cs n e; exact h.q_nilCheck x ho (.inr (.inr ⟨cs, n, e⟩)) (e.trans (ret_run hav))
    · cases hav
  · rename_i s x f ho
    split at hav
    · rename_i fd d n hf e; exact h.q_fieldAddr s x f ho hf (.inl ⟨d, n, e, (ret_run hav).symm⟩)
    · rename_i fd d j i n hf e; exact h.q_fieldAddr s x f ho hf (.inr (.inl ⟨d, j, i, n, e, (ret_run hav).symm⟩))
    · rename_i fd cs n hf e; exact h.q_fieldAddr s x f ho hf (.inr (.inr ⟨cs, n, e, (ret_run hav).symm⟩))
    · cases hav
  · rename_i s x f ho
    split at hav
    · rename_i fd cs hf e; exact h.q_field s x f ho hf e hav
    · cases hav
  · rename_i t x ix ho
    split at hav
    · rename_i d p kd i n e hx hi ht
      obtain ⟨hk, hav⟩ := bif_run hav
      simp only [Bool.and_eq_true] at hk
      obtain ⟨q, hq, rfl, rfl⟩ := brIdx_run _ _ hav
      exact h.q_idxpat t e x ix ho hx hi ht (Nat.le_of_ble_eq_true hk.1) (by omega) (Nat.le_of_ble_eq_true hk.2.2)
    · rename_i cs kd i n e hx hi ht
      obtain ⟨hk, hav⟩ := bif_run hav
      simp only [Bool.and_eq_true] at hk
      have hn := Nat.eq_of_beq_eq_true hk.1
      have h1 : 1 < n := Nat.le_of_ble_eq_true hk.2.1
      have hs := Nat.eq_of_beq_eq_true hk.2.2
      split at hav
      · split at hav
        · rename_i ns hns
          obtain ⟨hb, hav⟩ := br_run hav
          rw [← ret_run hav]
          obtain ⟨l, hl, hns⟩ := Option.bind_eq_some_iff.1 hns
          have hl' := allV_spec hl
          have hll := strsOf_spec hns
          refine h.q_idxro t e x ix ho hx hi ht hn h1 hs hb ?_
          simp only [Bool.and_eq_true, decide_eq_true_eq] at hb
          have hlen : ns.length = n := by rw [← hn, hl', hll]; simp
          have hlt : i.toNat < ns.length := by omega
          rw [hl', hll, List.getElem?_map, List.getElem?_map, List.getElem?_eq_getElem hlt, List.getD_eq_getElem?_getD, List.getElem?_eq_getElem hlt]; rfl
        · cases hav
      · split at hav
        · rename_i ns hns
          obtain ⟨hb, hav⟩ := br_run hav
          rw [← ret_run hav]
          obtain ⟨l, hl, hns⟩ := Option.bind_eq_some_iff.1 hns
          have hl' := allV_spec hl
          have hll := intsOf_spec hns
          refine h.q_idxro t e x ix ho hx hi ht hn h1 hs hb ?_
          simp only [Bool.and_eq_true, decide_eq_true_eq] at hb
          have hlen : ns.length = n := by rw [← hn, hl', hll]; simp
          have hlt : i.toNat < ns.length := by omega
          rw [hl', hll, List.getElem?_map, List.getElem?_map, List.getElem?_eq_getElem hlt, List.getD_eq_getElem?_getD, List.getElem?_eq_getElem hlt]; rfl
        · cases hav
      · cases hav
    · rename_i c kd i e hx hi ht
      obtain ⟨hk, hav⟩ := bif_run' hav
      simp only [Bool.not_eq_false', Bool.and_eq_true] at hk
      have hsz : (kinds E.P e).length = sizeP E.P e := Nat.eq_of_beq_eq_true hk.1
      have h0 : 0 < sizeP E.P e := Nat.le_of_ble_eq_true hk.2
      split at hav
      · rename_i d j w e' xs hv0 hr
        obtain ⟨hee, hav2⟩ := bif_run hav
        obtain rfl := Nat.eq_of_beq_eq_true hee
        obtain ⟨hb, hav⟩ := br_run hav2
        have hca : cellAt (get st d) j = .sl (w + 1) e xs := by
          simp only [res] at hr
          split at hr
          · rename_i o1 e1 xs1 hc1; rw [hc1]; exact hr
          · cases hr
        exact h.q_index t e x ix ho hx hi ht hsz h0 xs hb (.inl ⟨d, j, w, rfl, hca, (ret_run hav).symm⟩)
      · rename_i e' xs hv0
        obtain ⟨hee, hav2⟩ := bif_run hav
        obtain rfl := Nat.eq_of_beq_eq_true hee
        obtain ⟨hb, hav⟩ := br_run hav2
        exact h.q_index t e x ix ho hx hi ht hsz h0 xs hb (.inr ⟨rfl, (ret_run hav).symm⟩)
      · cases hav
    · cases hav
  · rename_i t x ix ho
    split at hav
    · rename_i cs kd i n e hx hi ht
      obtain ⟨hk, hav⟩ := bif_run hav
      simp only [Bool.and_eq_true, Bool.not_eq_true'] at hk
      obtain ⟨k1, k2, k3, k4⟩ := hk
      have hn := Nat.eq_of_beq_eq_true k1
      split at hav
      · rename_i k q hq
        split at hav
        · rename_i ns hns
          obtain ⟨hb, hav⟩ := br_run hav
          rw [← ret_run hav]
          have hl := intsOf_spec hns
          have hlen : ns.length = n := by have := congrArg List.length hl; simp at this; omega
          have hb' := hb
          simp only [Bool.and_eq_true, decide_eq_true_eq] at hb'
          refine h.q_idxarr t e x ix ho hx hi ht hn (Nat.eq_of_beq_eq_true k2) k3 k4 hb ?_ rfl
          have hlt : i.toNat < ns.length := by omega
          rw [hl, List.getElem?_map, List.getElem?_eq_getElem hlt, List.getD_eq_getElem?_getD, List.getElem?_eq_getElem hlt]; rfl
        · cases hav
      · rename_i q hq
        split at hav
        · rename_i ns hns
          obtain ⟨hb, hav⟩ := br_run hav
          rw [← ret_run hav]
          have hl := strsOf_spec hns
          have hlen : ns.length = n := by have := congrArg List.length hl; simp at this; omega
          have hb' := hb
          simp only [Bool.and_eq_true, decide_eq_true_eq] at hb'
          refine h.q_idxarr t e x ix ho hx hi ht hn (Nat.eq_of_beq_eq_true k2) k3 k4 hb ?_ rfl
          have hlt : i.toNat < ns.length := by omega
          rw [hl, List.getElem?_map, List.getElem?_eq_getElem hlt, List.getD_eq_getElem?_getD, List.getElem?_eq_getElem hlt]; rfl
        · cases hav
      · cases hav
    · rename_i s kd i hx hi ht
      obtain ⟨hb, hav⟩ := br_run hav
      rw [← ret_run hav]
      exact h.q_idxstr t x ix ho hx hi ht hb
    · cases hav
  · rename_i t x lo hi ho
    split at hav
    · rename_i s hx ht
      dsimp only at hav
      split at hav
      · rename_i l u hl hu
        obtain ⟨hb, hav⟩ := br_run hav
        rw [← ret_run hav]
        refine h.q_slicestr t x lo hi ho hx ht ?_ ?_ hb
        · split at hl
          · exact .inl ⟨rfl, (Option.some.inj hl).symm⟩
          · rename_i y
            split at hl
            · rename_i k n hn; obtain rfl := Option.some.inj hl; exact .inr ⟨y, k, rfl, hn⟩
            · cases hl
        · split at hu
          · exact .inl ⟨rfl, (Option.some.inj hu).symm⟩
          · rename_i y
            split at hu
            · rename_i k n hn; obtain rfl := Option.some.inj hu; exact .inr ⟨y, k, rfl, hn⟩
            · cases hu
      · cases hav
    · exact h.q_plain (fun cs b e => by rw [ho] at e; cases e) hav
    · cases hav
  · rename_i x i ho
    split at hav
    · rename_i ps hx
      split at hav
      · rename_i e rows hp
        cases he : isPtrT e with
        | false => rw [he, cond_false] at hav; rw [← ret_run hav]; exact h.q_extract x i ho hx hp
        | true =>
          rw [he, cond_true] at hav
          obtain ⟨hk, hav⟩ := bif_run hav
          rw [Bool.and_eq_true] at hk
          obtain ⟨g1, g2⟩ := h.q_extractP x i ho hx hp he (Nat.le_of_ble_eq_true hk.1) (Nat.eq_of_beq_eq_true hk.2)
          by_cases h1 : rows.length = 1
          · rw [show (Br.br (decide (rows.length = 1)) _ _ : Br AV).run = _ from rfl, decide_eq_true h1] at hav
            rw [← ret_run hav]; exact g1 h1
          · rw [show (Br.br (decide (rows.length = 1)) _ _ : Br AV).run = _ from rfl, decide_eq_false h1] at hav
            obtain ⟨h2, hav⟩ := br_run hav
            rw [← ret_run hav]; exact g2 (of_decide_eq_true h2)
      · rename_i ag cs _ hp; rw [← ret_run hav]; exact h.q_extract x i ho hx hp
      · cases hav
    · cases hav
  · rename_i t len parts ho
    split at hav
    · rename_i e ht
      dsimp only at hav
      split at hav
      · rename_i z hz
        obtain ⟨hb, hav⟩ := bif_run hav
        split at hav
        · rename_i cs hf
          split at hav
          · rename_i rs hp; rw [← ret_run hav]; exact h.q_buildSlice t e len parts ho ht hz hb hf hp
          · cases hav
        · cases hav
      · cases hav
    · cases hav
  · rename_i t x y ho
    split at hav
    · rename_i e l c ht hx hy
      split at hav
      · rename_i i z hi hz
        dsimp only at hav
        obtain ⟨hb, hav⟩ := bif_run hav
        split at hav
        · rename_i row hp
          obtain ⟨hc, hav⟩ := br_run hav
          rw [← ret_run hav]
          exact h.q_makeSlice t e x y ho ht hx hy hi hz hb hp hc
        · cases hav
      · cases hav
    · cases hav
  · rename_i op t x y yt ho
    exact h.q_binop op t x y yt ho hav
  · rename_i args ts ho
    split at hav
    · rename_i x t ha hts
      split at hav
      · rename_i c hx
        split at hav
        · rename_i q e xs e' hc ht
          obtain ⟨hk0, hav⟩ := bif_run hav
          rw [← ret_run hav]
          exact h.q_len x t args ts ho ha hts hx hc ht (Nat.le_of_ble_eq_true hk0)
        · exact h.q_plain (by rw [ho]; simp) hav
        · cases hav
      · cases hav
    · cases hav
  · rename_i f args ts ho
    split at hav
    · rename_i n hf
      split at hav
      · rename_i sp hs
        obtain ⟨hl, hav⟩ := bif_run' hav
        split at hav
        · rename_i ds hp
          obtain ⟨t, hG, hav⟩ := opt_run hav
          rw [← ret_run hav]
          exact h.q_call hE f args ts ho hf hs (hm _ ho f n sp rfl hf hs) hl hp hG
        · cases hav
      · cases hav
    · rename_i e xs hf
      obtain ⟨hk, hav⟩ := bif_run' hav
      rw [Bool.not_eq_false'] at hk
      have hk := Nat.eq_of_beq_eq_true hk
      cases hfn : isFnT e with
      | true =>
        rw [hfn, cond_true] at hav
        split at hav
        · rename_i sp hs
          obtain ⟨hl, hav⟩ := bif_run' hav
          split at hav
          · rename_i ds hp
            obtain ⟨t, hG, hav⟩ := opt_run hav
            rw [← ret_run hav]
            exact h.q_callN hE f args ts ho ((h.fnCell hf hk).1 hfn) hs (packArgs_noMut hp) hl hp hG
          · cases hav
        · cases hav
      | false =>
        rw [hfn, cond_false] at hav
        cases hcap : isCapT e with
        | true =>
        rw [hcap, cond_true] at hav
        split at hav
        · rename_i sp hs
          obtain ⟨hl, hav⟩ := bif_run' hav
          rw [Bool.or_eq_false_iff, Bool.not_eq_false'] at hl
          split at hav
          · rename_i ds hp
            obtain ⟨t, hG, hav⟩ := opt_run hav
            rw [← ret_run hav]
            exact h.q_callCap hE f args ts ho hf hk hcap hs hl.1 hl.2 hp hG
          · cases hav
        · cases hav
        | false =>
        rw [hcap, cond_false] at hav
        obtain ⟨hcl, hav⟩ := bif_run hav
        split at hav
        · rename_i sp hs
          obtain ⟨hl, hav⟩ := bif_run' hav
          rw [Bool.or_eq_false_iff, Bool.or_eq_false_iff, Bool.not_eq_false', Bool.not_eq_false'] at hl
          split at hav
          · rename_i ds hp
            obtain ⟨t, hG, hav⟩ := opt_run hav
            rw [← ret_run hav]
            exact h.q_callC hE f args ts ho hf hk hfn hcl hs hl.1.1 (Nat.eq_of_beq_eq_true hl.1.2) hl.2 hp hG
          · cases hav
        · cases hav
    · cases hav
  · rename_i ho; exact h.q_plain (by rw [ho]; simp) hav
  · rename_i ho; exact h.q_plain (by rw [ho]; simp) hav
  · rename_i ho; exact h.q_plain (by rw [ho]; simp) hav
  · rename_i ho; exact h.q_plain (by rw [ho]; simp) hav
  · rename_i s t x ho
    split at hav
    · rename_i c e hx hs ht
      split at hav
      · rename_i own e' xs hc he
        obtain ⟨hb, hav⟩ := bif_run hav
        rw [← ret_run hav]
        simp only [Bool.and_eq_true] at hb
        obtain rfl := Nat.eq_of_beq_eq_true hb.1
        exact h.q_conv s t e x ho hx hs ht he (Nat.eq_of_beq_eq_true hb.2) hc
      · cases hav
    · rename_i b e hx hs ht
      split at hav
      · rename_i he
        rw [← ret_run hav]
        exact h.q_bytes s t e x ho hx hs ht he
      · cases hav
    · exact h.q_plain (by rw [ho]; simp) hav
  · cases hav
end
end Go.Proofs.YtpanhndkcnojpaaDoor.Ev
/- Operations that write: a slice taken out of its place, memory that one place owns. No condition. -/
namespace Go.Proofs.YtpanhndkcnojpaaDoor.Ev
open Go Go.RowKit
set_option linter.unusedVariables false
set_option linter.unusedSimpArgs false
theorem get_forgetR (d j t : Nat) : ∀ st : St, get (forgetR d j st) t = forgetRA d j (get st t)
  | [] => rfl
  | (i, a) :: r => by
    have ih := get_forgetR d j t r
    show get ((i, forgetRA d j a) :: forgetR d j r) t = _
    rw [get_cons, get_cons, ih]; split <;> rfl
section
variable {E : Env} {w0 : World} {X : Nat → Prop} {st : St} {a : Act} {cx : Cx} {o : Oper} {av : AV}
theorem AVRep.forgetR {d : Nat} {v : Value} (h : AVRep cx d av v) (d' j' : Nat) : AVRep cx d (forgetRA d' j' av) v := by
  refine h.mapped (forgetRC d' j') (forgetRC_or d' j') ?_
  cases av with
  | pel d'' j i o => simp only [forgetRA]; cases (Nat.beq d' d'' && Nat.beq j' j) <;> simp
  | _ => exact .inr rfl
theorem avoid_forgetRC (d j : Nat) (c : Cell) : AvoidC (fun d' j' => d' = d ∧ j' = j) (forgetRC d j c) := by
  cases c with
  | ref d' j' =>
    simp only [forgetRC]
    cases h : (Nat.beq d d' && Nat.beq j j') with
    | true => trivial
    | false => rintro ⟨rfl, rfl⟩; simp at h
  | _ => trivial
theorem avoid_cellsR (d j : Nat) (cs : List Cell) : AvoidCs (fun d' j' => d' = d ∧ j' = j) (cs.map (forgetRC d j)) := by
  intro c hc
  obtain ⟨c0, _, rfl⟩ := List.mem_map.1 hc
  exact avoid_forgetRC d j c0
theorem avoid_forgetR (d j : Nat) (av : AV) : Avoid (fun d' j' => d' = d ∧ j' = j) (fun _ => False) (forgetRA d j av) := by
  cases av with
  | p a cs => exact avoid_cellsR d j cs
  | tup ps => intro p hp; obtain ⟨p0, _, rfl⟩ := List.mem_map.1 hp; exact avoid_cellsR d j _
  | box o cs => exact avoid_cellsR d j cs
  | ro cs o => exact avoid_cellsR d j cs
  | pat d' o => exact id
  | pel d' j' i o =>
    simp only [forgetRA]
    cases h : (Nat.beq d d' && Nat.beq j j') with
    | true => trivial
    | false => rintro ⟨rfl, rfl⟩; simp at h
  | _ => trivial
theorem CellsRep.setC {d off : Nat} {cs : List Cell} {vs : List Value} (h : CellsRep cx d off cs vs) (j : Nat) {c : Cell} (hc : ∀ v, vs[j]? = some v → CellRep cx d (off + j) c v) : CellsRep cx d off (cs.set j c) vs := by
  refine ⟨by simp [h.1], h.2.1, fun i c' v' h1 h2 => ?_⟩
  rw [List.getElem?_set] at h1
  by_cases e : j = i
  · subst e
    rw [if_pos rfl] at h1
    split at h1
    · obtain rfl := Option.some.inj h1; exact hc v' h2
    · cases h1
  · rw [if_neg e] at h1; exact h.2.2 i c' v' h1 h2
theorem PartsRep.setC {d : Nat} : ∀ {ps : List (Bool × List Cell)} {off : Nat} {vs : List Value} (j : Nat) {c : Cell}, PartsRep cx d off ps vs → (∀ v, v.oneCell' = true → (∀ c0, (ps.flatMap (·.2))[j]? = some c0 → CellRep cx d (off + j) c0 v) → CellRep cx d (off + j) c v) → PartsRep cx d off (setT ps j c) vs
  | [], off, [], j, c, _, _ => trivial
  | [], off, _ :: _, _, _, h, _ => by simp [PartsRep] at h
  | p :: ps, off, [], _, _, h, _ => by obtain ⟨a, cs⟩ := p; cases a <;> simp [PartsRep] at h
  | (ag, cs) :: ps, off, v :: vs, j, c, h, hc => by
    show PartsRep cx d off (bif Nat.blt j cs.length then (ag, cs.set j c) :: ps else (ag, cs) :: setT ps (j - cs.length) c) (v :: vs)
    have key : ∀ {ws : List Value}, CellsRep cx d off cs ws → j < cs.length → CellsRep cx d off (cs.set j c) ws := by
      intro ws hw hj
      refine hw.setC j fun u hu => hc u (hw.2.1 u (List.mem_of_getElem? hu)) fun c0 h0 => ?_
      rw [List.flatMap_cons, List.getElem?_append_left hj] at h0
      exact hw.2.2 j c0 u h0 hu
    cases hb : Nat.blt j cs.length with
    | true =>
      have hj : j < cs.length := Nat.le_of_ble_eq_true hb
      rw [cond_true]
      cases ag with
      | true =>
        obtain ⟨⟨ws, rfl, hw⟩, hr⟩ := h
        exact ⟨⟨ws, rfl, key hw hj⟩, by simpa using hr⟩
      | false =>
        obtain ⟨hw, hr⟩ := h
        exact ⟨key hw hj, by simpa using hr⟩
    | false =>
      have hj : ¬ j < cs.length := fun hh => by have := Nat.ble_eq_true_of_le hh; unfold Nat.blt at hb; rw [this] at hb; cases hb
      rw [cond_false]
      have hc' : ∀ v, v.oneCell' = true → (∀ c0, (ps.flatMap (·.2))[j - cs.length]? = some c0 → CellRep cx d (off + cs.length + (j - cs.length)) c0 v) → CellRep cx d (off + cs.length + (j - cs.length)) c v := by
        intro u hu h0
        have e : off + cs.length + (j - cs.length) = off + j := by omega
        rw [e] at h0 ⊢
        refine hc u hu fun c0 hc0 => h0 c0 ?_
        rwa [List.flatMap_cons, List.getElem?_append_right (Nat.le_of_not_lt hj)] at hc0
      cases ag with
      | true => obtain ⟨hw, hr⟩ := h; exact ⟨hw, hr.setC (j - cs.length) hc'⟩
      | false => obtain ⟨hw, hr⟩ := h; exact ⟨hw, hr.setC (j - cs.length) hc'⟩
theorem AVRep.setC {d : Nat} {v : Value} (h : AVRep cx d av v) (j : Nat) {c : Cell} (hc : ∀ v, v.oneCell' = true → (∀ c0, (cellsIn av)[j]? = some c0 → CellRep cx d j c0 v) → CellRep cx d j c v) : AVRep cx d (setAt av j c) v := by
  have key : ∀ {cs : List Cell} {ws : List Value}, cellsIn av = cs → CellsRep cx d 0 cs ws → CellsRep cx d 0 (cs.set j c) ws := by
    intro cs ws e hw
    refine hw.setC j fun u hu => ?_
    rw [Nat.zero_add]
    refine hc u (hw.2.1 u (List.mem_of_getElem? hu)) fun c0 h0 => ?_
    rw [e] at h0
    have := hw.2.2 j c0 u h0 hu
    rwa [Nat.zero_add] at this
  cases av with
  | p ag cs => cases ag with
    | true => obtain ⟨vs, rfl, hr⟩ := h; exact ⟨vs, rfl, key rfl hr⟩
    | false => exact key rfl (show CellsRep cx d 0 cs [v] from h)
  | tup ps =>
    obtain ⟨vs, rfl, hr⟩ := h
    refine ⟨vs, rfl, hr.setC j fun u hu h0 => ?_⟩
    rw [Nat.zero_add] at h0 ⊢
    exact hc u hu h0
  | box w cs => obtain ⟨b, vs, t, rfl, h1, h2, h3, hr, hA⟩ := h; exact ⟨b, vs, t, rfl, h1, h2, h3, key rfl hr, hA⟩
  | _ => exact h
theorem clearA_eq (av : AV) (j : Nat) : clearA av j = setAt av j .u := by cases av <;> rfl
theorem Rel.takeOut (h : Rel E w0 X st a cx) (d j : Nat) : Rel E w0 X (takeOut st d j) a cx := by
  refine ⟨h.P, h.defers, h.kept, h.own, h.non, h.glob, h.nt, fun t => ?_⟩
  show AVRep cx t (get ((d, clearA (forgetRA d j (get st d)) j) :: forgetR d j st) t) _
  rw [get_cons, get_forgetR]
  split
  · rename_i e; subst e
    rw [clearA_eq]
    exact ((h.slots d).forgetR d j).setC j fun _ _ _ => trivial
  · exact (h.slots t).forgetR d j
theorem cellAt_eq (av : AV) (j : Nat) : cellAt av j = (cellsIn av).getD j .u := by cases av <;> simp [cellAt, cellsIn]
/-- Nobody claims the place (d, i): i is 0 for the variable itself, j + 1 for its cell j. -/
def Free (st : St) (d i : Nat) : Prop := (i = 0 → ∀ w cs, get st d ≠ .box w cs) ∧ ∀ j, i = j + 1 → isOwn (cellAt (get st d) j) = false
theorem own_at {j : Nat} {c : Cell} (h : (cellsIn av)[j]? = some c) : cellAt av j = c := by rw [cellAt_eq, List.getD_eq_getElem?_getD, h]; rfl
/-- Memory changes that one place owns; the slot of this place is told anew. -/
theorem Rel.touch (h : Rel E w0 X st a cx) (d i : Nat) {w' : World} (ho : w'.os = cx.w.os) (ht : w'.tape = cx.w.tape) (hu : w'.output = cx.w.output) (hs : cx.w.heap.size ≤ w'.heap.size) (hb : ∀ b, b < cx.w.heap.size → cx.O b ≠ some (d, i) → w'.heap[b]? = cx.w.heap[b]?)
    {av' : AV} (hav : AVRep { cx with w := w' } d av' (a.tmps.getD d undef)) : Rel E w0 X ((d, av') :: st) a { cx with w := w' } := by
  have hch : Ch cx { cx with w := w' } (fun b => cx.O b = some (d, i)) (fun _ _ => False) (fun _ => False) :=
    ⟨rfl, rfl, fun b hb' hS => hb b hb' hS, fun b _ hf => ⟨fun hS => hf (.inr ⟨_, hS⟩), hf⟩, fun _ _ _ => rfl, fun _ _ => rfl⟩
  refine ⟨h.P, h.defers, ⟨ho.trans h.kept.os, ht.trans h.kept.tape, hu.trans h.kept.output, Nat.le_trans h.kept.size hs, fun k hk hx => ?_⟩, fun b p hp => ⟨Nat.lt_of_lt_of_le (h.own b p hp).1 hs, (h.own b p hp).2⟩, h.non, h.glob, h.nt, fun t => ?_⟩
  · rw [hb k (Nat.lt_of_lt_of_le hk h.kept.size) (fun hp => by rcases (h.own k _ hp).2 with h1 | h1; omega; exact hx h1)]
    exact h.kept.block k hk hx
  · show AVRep _ t (get ((d, av') :: st) t) _
    rw [get_cons]
    split
    · rename_i e; subst e; exact hav
    · rename_i e
      refine (h.slots t).change hch (by cases get st t <;> first | trivial | (intro; simp) | exact id | (intro c hc; cases c <;> first | trivial | exact id) | (intro p hp c hc; cases c <;> first | trivial | exact id)) (fun j c _ _ => ⟨id, fun b hb' => ⟨(h.own b _ hb').1, fun hS => e ?_, hb'⟩⟩) (fun w cs _ => ⟨id, fun b hb' => ⟨(h.own b _ hb').1, fun hS => e ?_, hb'⟩⟩)
      · rw [hb'] at hS; exact (Prod.mk.inj (Option.some.inj hS)).1.symm
      · rw [hb'] at hS; exact (Prod.mk.inj (Option.some.inj hS)).1.symm
/-- The same where nobody claims the place: no slot is told anew. -/
theorem Rel.touchFree (h : Rel E w0 X st a cx) {d i : Nat} (hfree : Free st d i) {w' : World} (ho : w'.os = cx.w.os) (ht : w'.tape = cx.w.tape) (hu : w'.output = cx.w.output) (hs : cx.w.heap.size ≤ w'.heap.size) (hb : ∀ b, b < cx.w.heap.size → cx.O b ≠ some (d, i) → w'.heap[b]? = cx.w.heap[b]?) : Rel E w0 X st a { cx with w := w' } := by
  have hch : Ch cx { cx with w := w' } (fun b => cx.O b = some (d, i)) (fun _ _ => False) (fun _ => False) :=
    ⟨rfl, rfl, fun b hb' hS => hb b hb' hS, fun b _ hf => ⟨fun hS => hf (.inr ⟨_, hS⟩), hf⟩, fun _ _ _ => rfl, fun _ _ => rfl⟩
  refine ⟨h.P, h.defers, ⟨ho.trans h.kept.os, ht.trans h.kept.tape, hu.trans h.kept.output, Nat.le_trans h.kept.size hs, fun k hk hx => ?_⟩, fun b p hp => ⟨Nat.lt_of_lt_of_le (h.own b p hp).1 hs, (h.own b p hp).2⟩, h.non, h.glob, h.nt, fun t => ?_⟩
  · rw [hb k (Nat.lt_of_lt_of_le hk h.kept.size) (fun hp => by rcases (h.own k _ hp).2 with h1 | h1; omega; exact hx h1)]
    exact h.kept.block k hk hx
  · refine (h.slots t).change hch (by cases get st t <;> first | trivial | (intro; simp) | exact id | (intro c hc; cases c <;> first | trivial | exact id) | (intro p hp c hc; cases c <;> first | trivial | exact id)) (fun j c hj hoc => ⟨id, fun b hb' => ⟨(h.own b _ hb').1, fun hS => ?_, hb'⟩⟩) (fun w cs hbx => ⟨id, fun b hb' => ⟨(h.own b _ hb').1, fun hS => ?_, hb'⟩⟩)
    · rw [hb'] at hS
      obtain ⟨rfl, rfl⟩ := Prod.mk.inj (Option.some.inj hS)
      have := hfree.2 j rfl
      rw [own_at hj, hoc] at this; cases this
    · rw [hb'] at hS
      obtain ⟨rfl, rfl⟩ := Prod.mk.inj (Option.some.inj hS)
      exact hfree.1 rfl w cs hbx
/-- A slice whose block nobody claims is put into a slot. -/
theorem Rel.putOwn (h : Rel E w0 X st a cx) {d : Nat} (hd : d < E.nt) {e : TypeId} {xs : List (List D)} {v : Value} (hv : Owns cx.P cx.w (Forb cx) e xs v)
    (hf : ∀ b, v.ownBlock = some b → b < cx.w.heap.size ∧ (w0.heap.size ≤ b ∨ X b) ∧ ∃ p, cx.O b = some p ∧ Free st p.1 p.2) :
    ∃ cx', Rel E w0 X (Ev.put st d (.p false [.sl 1 e xs])) (a.put (some d) v) cx' ∧ cx'.w = cx.w ∧ cx'.N = cx.N ∧ cx'.A = cx.A := by
  have hd' : d < a.tmps.size := h.nt ▸ hd
  let cx' : Cx := { cx with O := fun b => if v.ownBlock = some b then some (d, 1) else cx.O b, pl := fun d' j => if d' = d then (if j = 0 then some (e, v) else none) else cx.pl d' j, bx := fun d' => if d' = d then none else cx.bx d' }
  have hFb : ∀ b, Forb cx' b → Forb cx b := by
    rintro b (hN | ⟨p, hp⟩)
    · exact .inl hN
    · by_cases hb : v.ownBlock = some b
      · obtain ⟨_, _, p', hp', _⟩ := hf b hb; exact .inr ⟨p', hp'⟩
      · simp only [cx', if_neg hb] at hp; exact .inr ⟨p, hp⟩
  have hch : Ch cx cx' (fun _ => False) (fun d' _ => d' = d) (fun d' => d' = d) :=
    ⟨rfl, rfl, fun _ _ _ => rfl, fun b _ hb => ⟨id, fun hb' => hb (hFb b hb')⟩, fun d' j hh => if_neg hh, fun d' hh => if_neg hh⟩
  refine ⟨cx', ⟨h.P, h.defers, h.kept, fun b p hp => ?_, h.non, h.glob, by simp [Act.put, h.nt], fun t => ?_⟩, rfl, rfl, rfl⟩
  · by_cases hb : v.ownBlock = some b
    · exact ⟨(hf b hb).1, (hf b hb).2.1⟩
    · simp only [cx', if_neg hb] at hp; exact h.own b p hp
  · rw [getD_put hd']
    show AVRep cx' t (get (Ev.put st d (.p false [.sl 1 e xs])) t) _
    unfold Ev.put
    rw [show (owner (AV.p false [Cell.sl 1 e xs]) || owner (get st d)) = true from rfl, cond_true, get_cons, get_forget]
    by_cases ee : d = t
    · subst ee
      rw [if_pos rfl, if_pos rfl]
      show CellsRep cx' d 0 [.sl 1 e xs] [v]
      refine ⟨rfl, by simpa using hv.one, fun j c u h1 h2 => ?_⟩
      cases j with
      | succ j => simp at h1
      | zero =>
        obtain rfl := Option.some.inj h1
        obtain rfl := Option.some.inj h2
        exact ⟨hv.change (fun b _ hb => ⟨rfl, fun hb' => hb (hFb b hb')⟩) (fun _ _ => rfl), by simp [cx'], fun b hb => by simp [cx', hb], fun hh => absurd rfl hh⟩
    · rw [if_neg ee, if_neg ee]
      refine ((h.slots t).forget d).change hch (avoid_forget d _) (fun j c hj hoc => ⟨fun e' => ee e'.symm, fun b hb => ⟨(h.own b _ hb).1, id, ?_⟩⟩) (fun w cs hbx => ⟨fun e' => ee e'.symm, fun b hb => ⟨(h.own b _ hb).1, id, ?_⟩⟩)
      · have hnb : v.ownBlock ≠ some b := fun hvb => by
          obtain ⟨_, _, p, hp, hfree⟩ := hf b hvb
          rw [hb] at hp
          obtain rfl := Option.some.inj hp
          have h1 := hfree.2 j rfl
          have h2 := own_at hj
          rw [cellAt_eq] at h1 h2
          have h3 : isOwn ((cellsIn (forgetA d (get st t))).getD j .u) = isOwn ((cellsIn (get st t)).getD j .u) := by
            have : ∀ av, ((cellsIn (forgetA d av)).getD j .u) = forgetC d ((cellsIn av).getD j .u) ∨ cellsIn (forgetA d av) = cellsIn av := by
              intro av
              have hm : ∀ cs : List Cell, (cs.map (forgetC d)).getD j .u = forgetC d (cs.getD j .u) := by
                intro cs
                rw [List.getD_eq_getElem?_getD, List.getD_eq_getElem?_getD, List.getElem?_map]
                cases cs[j]? <;> rfl
              cases av with
              | p ag cs => exact .inl (hm cs)
              | box w cs => exact .inl (hm cs)
              | tup ps =>
                refine .inl ?_
                have : cellsIn (forgetA d (.tup ps)) = (cellsIn (.tup ps)).map (forgetC d) := by
                  simp only [forgetA, cellsIn, List.flatMap_map, List.map_flatMap]
                rw [this]; exact hm _
              | pat d' o => right; simp only [forgetA]; cases Nat.beq d d' <;> rfl
              | pel d' j i o => right; simp only [forgetA]; cases Nat.beq d d' <;> rfl
              | _ => exact .inr rfl
            rcases this (get st t) with e1 | e1
            · rw [e1, forgetC_own]
            · rw [e1]
          rw [h2] at h3
          rw [← h3, hoc] at h1; cases h1
        simp only [cx', if_neg hnb]; exact hb
      · have hnb : v.ownBlock ≠ some b := fun hvb => by
          obtain ⟨_, _, p, hp, hfree⟩ := hf b hvb
          rw [hb] at hp
          obtain rfl := Option.some.inj hp
          cases hg : get st t with
          | box w' cs' => exact hfree.1 rfl w' cs' hg
          | pat d' o => rw [hg] at hbx; simp only [forgetA] at hbx; cases hq : Nat.beq d d' <;> simp [hq] at hbx
          | pel d' j i o => rw [hg] at hbx; simp only [forgetA] at hbx; cases hq : Nat.beq d d' <;> simp [hq] at hbx
          | _ => rw [hg] at hbx; simp [forgetA] at hbx
        simp only [cx', if_neg hnb]; exact hb
end
end Go.Proofs.YtpanhndkcnojpaaDoor.Ev
/- The operations that write are what the model runs. No condition. -/
namespace Go.Proofs.YtpanhndkcnojpaaDoor.Ev
open Go Go.RowKit
set_option linter.unusedVariables false
set_option linter.unusedSimpArgs false
section
variable {E : Env} {w0 : World} {X : Nat → Prop} {st st' : St} {a : Act} {cx : Cx} {o : Oper} {av : AV}
/-- What one operation owes: behind it the new state tells the new frame. -/
def After (E : Env) (w0 : World) (X : Nat → Prop) (st' : St) (o : Oper) (a : Act) (cx : Cx) : Prop :=
  Does E.P o a cx.w (fun v w' => ∃ cx', Rel E w0 X st' (a.put o.dst v) cx' ∧ cx'.w = w' ∧ cx'.N = cx.N ∧ cx'.A = cx.A) ∨
  ∃ w', (execOp a.eval o).run E.P cx.w = .ok .skip w' ∧ ∃ cx', Rel E w0 X st' (a.put o.dst undef) cx' ∧ cx'.w = w' ∧ cx'.N = cx.N ∧ cx'.A = cx.A
theorem Does.mono {P : Program} {w : World} {Q Q' : Value → World → Prop} (h : Does P o a w Q) (hq : ∀ v w', Q v w' → Q' v w') : Does P o a w Q' := by
  rcases h with ⟨v, w', h1, h2⟩ | ⟨f, args, h1, h2⟩
  · exact .inl ⟨v, w', h1, hq _ _ h2⟩
  · exact .inr ⟨f, args, h1, h2.mono fun e w' ⟨v, hv, hp⟩ => ⟨v, hv, hq _ _ hp⟩⟩
theorem Rel.after_quiet (h : Rel E w0 X st a cx) (hd : ∀ x, o.dst = some x → x < E.nt) (hg : Goal E o a cx av) : After E w0 X (Ev.putO st o.dst av) o a cx :=
  .inl (hg.mono fun v w' hn => h.putO hd hn)
theorem Rel.weaken (h : Rel E w0 X st a cx) {d : Nat} {av' : AV} (hav : AVRep cx d av' (a.tmps.getD d undef)) : Rel E w0 X ((d, av') :: st) a cx :=
  ⟨h.P, h.defers, h.kept, h.own, h.non, h.glob, h.nt, fun t => by
    show AVRep cx t (get ((d, av') :: st) t) _
    rw [get_cons]; split
    · rename_i e; subst e; exact hav
    · exact h.slots t⟩
theorem cellsIn_setAt (av : AV) (j : Nat) (c : Cell) : cellsIn (setAt av j c) = (cellsIn av).set j c := by
  cases av with
  | tup ps =>
    show (setT ps j c).flatMap (·.2) = (ps.flatMap (·.2)).set j c
    induction ps generalizing j with
    | nil => simp [setT]
    | cons p ps ih =>
      obtain ⟨ag, cs⟩ := p
      show (bif Nat.blt j cs.length then (ag, cs.set j c) :: ps else (ag, cs) :: setT ps (j - cs.length) c).flatMap (·.2) = _
      cases hb : Nat.blt j cs.length with
      | true =>
        have hj : j < cs.length := Nat.le_of_ble_eq_true hb
        simp [List.set_append_left _ _ hj]
      | false =>
        have hj : ¬ j < cs.length := fun hh => by have := Nat.ble_eq_true_of_le hh; unfold Nat.blt at hb; rw [this] at hb; cases hb
        simp only [cond_false, List.flatMap_cons, ih]
        rw [List.set_append_right _ _ (Nat.le_of_not_lt hj)]
  | _ => simp [setAt, cellsIn]
theorem setAt_box {av : AV} {j : Nat} {c : Cell} {w : Bool} {cs : List Cell} (h : setAt av j c = .box w cs) : ∃ cs', av = .box w cs' := by
  cases av <;> simp [setAt] at h
  rename_i w' cs'
  exact ⟨cs', by rw [h.1]⟩
theorem free_setAt {d j : Nat} {c : Cell} (hc : isOwn c = false) : Free ((d, setAt (get st d) j c) :: st) d (j + 1) := by
  refine ⟨fun h => by simp at h, fun j' hj' => ?_⟩
  obtain rfl : j = j' := by omega
  rw [get_cons, if_pos rfl, cellAt_eq, cellsIn_setAt, List.getD_eq_getElem?_getD, List.getElem?_set, if_pos rfl]
  split
  · exact hc
  · rfl
theorem setT_set : ∀ (ps : List (Bool × List Cell)) (j : Nat) (c c' : Cell), setT (setT ps j c) j c' = setT ps j c'
  | [], _, _, _ => rfl
  | (ag, cs) :: ps, j, c, c' => by
    show setT (bif Nat.blt j cs.length then (ag, cs.set j c) :: ps else (ag, cs) :: setT ps (j - cs.length) c) j c' = (bif Nat.blt j cs.length then (ag, cs.set j c') :: ps else (ag, cs) :: setT ps (j - cs.length) c')
    cases hb : Nat.blt j cs.length with
    | true =>
      show (bif Nat.blt j (cs.set j c).length then (ag, (cs.set j c).set j c') :: ps else _) = _
      rw [List.length_set, hb]; simp
    | false =>
      show (bif Nat.blt j cs.length then _ else (ag, cs) :: setT (setT ps (j - cs.length) c) (j - cs.length) c') = _
      rw [hb, setT_set ps]; rfl
/-- The rows of a place's slice are written; the slice stays where it is. -/
theorem Rel.rewrite (h : Rel E w0 X st a cx) {d j n : Nat} {e : TypeId} {xs xs' : List (List D)} (hc : cellAt (get st d) j = .sl (n + 1) e xs) {w' : World} (ho : w'.os = cx.w.os) (ht : w'.tape = cx.w.tape) (hu : w'.output = cx.w.output) (hs : cx.w.heap.size ≤ w'.heap.size)
    (hb : ∀ b, b < cx.w.heap.size → cx.O b ≠ some (d, j + 1) → w'.heap[b]? = cx.w.heap[b]?) (hv : ∀ v, cx.pl d j = some (e, v) → Owns cx.P w' (Forb cx) e xs' v) : Rel E w0 X (setSl st d j (.sl (n + 1) e xs')) a { cx with w := w' } := by
  obtain ⟨v, h1, h2, h3, h4⟩ := h.place hc
  have hj : j < (cellsIn (get st d)).length := by
    rw [cellAt_eq, List.getD_eq_getElem?_getD] at hc
    cases hq : (cellsIn (get st d))[j]? with
    | none => rw [hq] at hc; cases hc
    | some c => exact (List.getElem?_eq_some_iff.1 hq).1
  have hcj : (cellsIn (get st d))[j]? = some (.sl (n + 1) e xs) := by
    rw [cellAt_eq, List.getD_eq_getElem?_getD, List.getElem?_eq_getElem hj] at hc
    rw [List.getElem?_eq_getElem hj]; exact congrArg some hc
  have hr0 : Rel E w0 X ((d, setAt (get st d) j (.ref d j)) :: st) a cx := h.weaken ((h.slots d).setC j fun u hu h0 => by
    obtain ⟨_, h5, _⟩ := h0 _ hcj
    exact ⟨e, h5⟩)
  have hr1 := hr0.touchFree (free_setAt (st := st) (d := d) (j := j) (c := .ref d j) rfl) ho ht hu hs hb
  refine ⟨hr1.P, hr1.defers, hr1.kept, hr1.own, hr1.non, hr1.glob, hr1.nt, fun t => ?_⟩
  show AVRep _ t (get ((d, setAt (get st d) j (.sl (n + 1) e xs')) :: st) t) _
  have hst := hr1.slots t
  rw [get_cons] at hst ⊢
  split
  · rename_i ee
    subst ee
    rw [if_pos rfl] at hst
    have he : setAt (setAt (get st d) j (.ref d j)) j (.sl (n + 1) e xs') = setAt (get st d) j (.sl (n + 1) e xs') := by
      cases get st d with
      | tup ps => exact congrArg AV.tup (setT_set ps j _ _)
      | _ => simp [setAt]
    rw [← he]
    refine hst.setC j fun u hu h0 => ?_
    have hcr : (cellsIn (setAt (get st d) j (.ref d j)))[j]? = some (.ref d j) := by
      rw [cellsIn_setAt, List.getElem?_set, if_pos rfl, if_pos hj]
    obtain ⟨e', h5⟩ := h0 _ hcr
    have h5' : cx.pl d j = some (e', u) := h5
    rw [h1] at h5'
    obtain ⟨rfl, rfl⟩ := Prod.mk.inj (Option.some.inj h5')
    exact ⟨hv v h1, h1, h3, h4⟩
  · rename_i ee; rw [if_neg ee] at hst; exact hst
theorem setAllV_eq : ∀ (vs l : List Value) (o : Nat), o + vs.length ≤ l.length → setAllV l o vs = l.take o ++ vs ++ l.drop (o + vs.length)
  | [], l, o, h => by simp [setAllV]
  | v :: vs, l, o, h => by
    have h' : o + 1 + vs.length ≤ (l.set o v).length := by simp at h ⊢; omega
    rw [setAllV, setAllV_eq vs (l.set o v) (o + 1) h']
    have ho : o < l.length := by simp at h; omega
    have e : l.set o v = l.take o ++ v :: l.drop (o + 1) := by rw [List.set_eq_take_append_cons_drop, if_pos ho]
    have hl : (l.take o).length = o := by rw [List.length_take]; omega
    have e1 : (l.set o v).take (o + 1) = l.take o ++ [v] := by
      rw [e, List.take_append, hl, List.take_of_length_le (by omega), show o + 1 - o = 1 by omega]; rfl
    have e2 : (l.set o v).drop (o + 1 + vs.length) = l.drop (o + (v :: vs).length) := by
      rw [e, List.drop_append, hl, List.drop_eq_nil_of_le (by omega), List.nil_append, show o + 1 + vs.length - o = vs.length + 1 by omega, List.drop_succ_cons, List.drop_drop]
      congr 1; simp; omega
    rw [e1, e2]; simp
/-! ### A slice is handed on -/
theorem forgetC2 (d t : Nat) (c : Cell) : AvoidC (fun d' _ => d' = d ∨ d' = t) (forgetC d (forgetC t c)) := by
  cases c with
  | ref d' j =>
    simp only [forgetC]
    cases h : Nat.beq t d' with
    | true => trivial
    | false =>
      simp only [cond_false, forgetC]
      cases h' : Nat.beq d d' with
      | true => trivial
      | false => rintro (rfl | rfl) <;> simp at h h'
  | _ => trivial
theorem forget2 (d t : Nat) (av : AV) : Avoid (fun d' _ => d' = d ∨ d' = t) (fun d' => d' = d ∨ d' = t) (forgetA d (forgetA t av)) := by
  have hm : ∀ cs : List Cell, AvoidCs (fun d' _ => d' = d ∨ d' = t) ((cs.map (forgetC t)).map (forgetC d)) := by
    intro cs c hc
    obtain ⟨c1, h1, rfl⟩ := List.mem_map.1 hc
    obtain ⟨c0, _, rfl⟩ := List.mem_map.1 h1
    exact forgetC2 d t c0
  cases av with
  | p a cs => exact hm cs
  | tup ps =>
    intro p hp
    obtain ⟨p1, h1, rfl⟩ := List.mem_map.1 hp
    obtain ⟨p0, _, rfl⟩ := List.mem_map.1 h1
    exact hm _
  | box o cs => exact hm cs
  | ro cs o => exact hm cs
  | pat d' o =>
    simp only [forgetA]
    cases h : Nat.beq t d' with
    | true => trivial
    | false =>
      simp only [cond_false, forgetA]
      cases h' : Nat.beq d d' with
      | true => trivial
      | false => rintro (rfl | rfl) <;> simp at h h'
  | pel d' j i o =>
    simp only [forgetA]
    cases h : Nat.beq t d' with
    | true => trivial
    | false =>
      simp only [cond_false, forgetA]
      cases h' : Nat.beq d d' with
      | true => trivial
      | false => rintro (rfl | rfl) <;> simp at h h'
  | _ => trivial
theorem isMut_no {cs : List Cell} (h : cs.any isMutC = false) {n : Nat} {e : TypeId} {xs : List (List D)} (hm : Cell.sl (n + 1) e xs ∈ cs) : n = 0 := by
  have := List.any_eq_false.1 h _ hm
  cases n with
  | zero => rfl
  | succ n => exact absurd rfl this
theorem Rel.assign (h : Rel E w0 X st a cx) {t d : Nat} (hd : d < E.nt) {ag : Bool} {cs : List Cell} (ht : get st t = .p ag cs) (ho : cs.any isOwn = true) (hm : cs.any isMutC = false) :
    ∃ cx', Rel E w0 X (Ev.put ((t, .u) :: Ev.forget t st) d (.p ag (cs.map (forgetC t)))) (a.put (some d) (a.tmps.getD t undef)) cx' ∧ cx'.w = cx.w ∧ cx'.N = cx.N ∧ cx'.A = cx.A := by
  have hd' : d < a.tmps.size := h.nt ▸ hd
  let cx' : Cx := { cx with
    O := fun b => match cx.O b with
      | some (t', i + 1) => if t' = t then some (d, i + 1) else some (t', i + 1)
      | x => x
    pl := fun d' j => if d' = d then cx.pl t j else cx.pl d' j
    bx := fun d' => if d' = d then none else cx.bx d' }
  have hO0 : ∀ b, (∃ p, cx'.O b = some p) → ∃ p, cx.O b = some p := by
    rintro b ⟨p, hp⟩
    cases hb : cx.O b with
    | none => simp only [cx', hb] at hp; cases hp
    | some q => exact ⟨q, rfl⟩
  have hO1 : ∀ b t' i, cx.O b = some (t', i + 1) → cx'.O b = some (if t' = t then d else t', i + 1) := by
    intro b t' i hb
    simp only [cx', hb]
    split <;> rfl
  have hO2 : ∀ b t', cx.O b = some (t', 0) → cx'.O b = some (t', 0) := by intro b t' hb; simp only [cx', hb]
  have hF : ∀ b, Forb cx' b ↔ Forb cx b := by
    intro b
    constructor
    · rintro (hN | hp)
      · exact .inl hN
      · exact .inr (hO0 b hp)
    · rintro (hN | ⟨⟨t', i⟩, hp⟩)
      · exact .inl hN
      · cases i with
        | zero => exact .inr ⟨_, hO2 b t' hp⟩
        | succ i => exact .inr ⟨_, hO1 b t' i hp⟩
  have hch : Ch cx cx' (fun _ => False) (fun d' _ => d' = d ∨ d' = t) (fun d' => d' = d ∨ d' = t) :=
    ⟨rfl, rfl, fun _ _ _ => rfl, fun b _ hb => ⟨id, fun hb' => hb ((hF b).1 hb')⟩, fun d' j hh => if_neg fun e => hh (.inl e), fun d' hh => if_neg fun e => hh (.inl e)⟩
  have hs := h.slots t
  rw [ht] at hs
  have hown : owner (.p ag (cs.map (forgetC t))) = true := by
    show (cs.map (forgetC t)).any isOwn = true
    rw [List.any_map]
    rw [show (isOwn ∘ forgetC t) = isOwn from funext fun c => forgetC_own t c]; exact ho
  refine ⟨cx', ⟨h.P, h.defers, h.kept, fun b p hp => ?_, h.non, h.glob, by simp [Act.put, h.nt], fun q => ?_⟩, rfl, rfl, rfl⟩
  · obtain ⟨p', hp'⟩ := hO0 b ⟨p, hp⟩; exact h.own b p' hp'
  · rw [getD_put hd']
    show AVRep cx' q (get (Ev.put ((t, .u) :: Ev.forget t st) d (.p ag (cs.map (forgetC t)))) q) _
    unfold Ev.put
    rw [hown, Bool.true_or, cond_true, get_cons]
    by_cases ee : d = q
    · subst ee
      rw [if_pos rfl, if_pos rfl]
      have key : ∀ {off : Nat} {vs : List Value}, CellsRep cx t off cs vs → CellsRep cx' d off ((cs.map (forgetC t)).map (forgetC d)) vs := by
        intro off vs hr
        refine ⟨by simpa using hr.1, hr.2.1, fun j c v h1 h2 => ?_⟩
        rw [List.getElem?_map, List.getElem?_map] at h1
        obtain ⟨c1, h3, rfl⟩ := Option.map_eq_some_iff.1 h1
        obtain ⟨c0, h4, rfl⟩ := Option.map_eq_some_iff.1 h3
        have hc := hr.2.2 j c0 v h4 h2
        cases c0 with
        | u => trivial
        | v x => exact hc
        | sl n e xs => cases n with
          | zero => exact RepD.weaken (show RepD cx.P cx.w (Forb cx) (.sl e) (.l xs) v from hc) fun b hb hb' => hb ((hF b).1 hb')
          | succ n =>
            obtain rfl := isMut_no hm (List.mem_of_getElem? h4)
            obtain ⟨g1, g2, g3, g4⟩ := hc
            refine ⟨g1.change (fun b _ hb => ⟨rfl, fun hb' => hb ((hF b).1 hb')⟩) (fun _ _ => rfl), by simp only [cx', if_pos]; exact g2, fun b hb => ?_, fun hh => absurd rfl hh⟩
            have := hO1 b t (off + j) (g3 b hb)
            rwa [if_pos rfl] at this
        | ref d' j' =>
          have hav := forgetC2 d t (.ref d' j')
          rcases forgetC_or t (.ref d' j') with e1 | e1
          · rw [e1] at hav ⊢
            rcases forgetC_or d (.ref d' j') with e2 | e2
            · rw [e2] at hav ⊢
              obtain ⟨e, he⟩ := hc
              exact ⟨e, (hch.pl d' j' hav).trans he⟩
            · rw [e2]; trivial
          · rw [e1]; trivial
      cases ag with
      | true => obtain ⟨vs, hv, hr⟩ := hs; rw [hv]; exact ⟨vs, rfl, key hr⟩
      | false => exact key (show CellsRep cx t 0 cs [_] from hs)
    · rw [if_neg ee, if_neg ee, get_forget]
      show AVRep cx' q (forgetA d (get ((t, .u) :: Ev.forget t st) q)) _
      rw [get_cons]
      split
      · trivial
      · rename_i et
        rw [get_forget]
        refine (((h.slots q).forget t).forget d).change hch (forget2 d t _) (fun j c _ _ => ⟨fun e' => e'.elim (fun e' => ee e'.symm) (fun e' => et e'.symm), fun b hb => ⟨(h.own b _ hb).1, id, ?_⟩⟩) (fun w cs _ => ⟨fun e' => e'.elim (fun e' => ee e'.symm) (fun e' => et e'.symm), fun b hb => ⟨(h.own b _ hb).1, id, hO2 b q hb⟩⟩)
        have := hO1 b q j hb
        rwa [if_neg fun e' => et e'.symm] at this
end
end Go.Proofs.YtpanhndkcnojpaaDoor.Ev
/- Appends, stores, calls that write: what the model runs. No condition. -/
namespace Go.Proofs.YtpanhndkcnojpaaDoor.Ev
open Go Go.RowKit
set_option linter.unusedVariables false
set_option linter.unusedSimpArgs false
section
variable {E : Env} {w0 : World} {X : Nat → Prop} {st st' : St} {a : Act} {cx : Cx} {o : Oper} {av : AV}
/-- The rows of a slice, laid flat. -/
def Laid (P : Program) (w : World) (F : Nat → Prop) (e : TypeId) (ys : List (List D)) (v : Value) : Prop :=
  (∃ c, v = .slice none 0 c ∧ ys = []) ∨ ∃ (ad : Addr) (c : Nat) (news : List Value), v = .slice (some ad) ys.length c ∧ news.length = ys.length * (kinds P e).length ∧ (∀ j u, news[j]? = some u → w.cell? (ad.add j) = some u) ∧ (∀ u ∈ news, u.oneCell' = true) ∧
    ∀ i j k, i < ys.length → (kinds P e)[j]? = some k → ∃ u, news[i * (kinds P e).length + j]? = some u ∧ RepD P w F k ((ys.getD i []).getD j .j) u
theorem RepD.laid {P : Program} {w : World} {F : Nat → Prop} {e : TypeId} {ys : List (List D)} {v : Value} (h : RepD P w F (.sl e) (.l ys) v) (hm0 : 0 < (kinds P e).length) : Laid P w F e ys v := by
  cases h with
  | fn _ _ he hk => omega
  | clo _ _ b he hk hF' hcl => omega
  | cap _ _ _ he hk => omega
  | pnil _ _ he hk => omega
  | ptr _ _ _ _ he hk => omega
  | nil _ _ ad c h0 =>
    have : ys = [] := h0
    subst this
    cases ad with
    | none => exact .inl ⟨c, rfl, rfl⟩
    | some ad => exact .inr ⟨ad, c, [], rfl, by simp, fun j u h => by simp at h, fun u h => by simp at h, fun i j k hi => by simp at hi⟩
  | sl _ _ b off c n vs hn h0 hm hF hc hr =>
    have hn' : n = ys.length := hn
    subst hn'
    have hget : ∀ q, q < ys.length * (kinds P e).length → q / (kinds P e).length < ys.length ∧ q % (kinds P e).length < (kinds P e).length := fun q hq =>
      ⟨Nat.div_lt_of_lt_mul (by rwa [Nat.mul_comm] at hq), Nat.mod_lt _ hm⟩
    have hcell : ∀ q, q < ys.length * (kinds P e).length → w.cell? ⟨b, off + q, none⟩ = some (vs (q / (kinds P e).length) (q % (kinds P e).length)) := by
      intro q hq
      obtain ⟨h1, h2⟩ := hget q hq
      have := hc _ _ h1 h2
      rwa [Nat.mul_comm, Nat.div_add_mod] at this
    refine .inr ⟨⟨b, off, none⟩, c, (List.range (ys.length * (kinds P e).length)).map fun q => vs (q / (kinds P e).length) (q % (kinds P e).length), rfl, by simp, fun j u hj => ?_, fun u hu => ?_, fun i j k hi hk => ?_⟩
    · rw [List.getElem?_map] at hj
      obtain ⟨q, hq, rfl⟩ := Option.map_eq_some_iff.1 hj
      obtain ⟨h1, h2⟩ := List.getElem?_eq_some_iff.1 hq
      simp at h1 h2
      subst h2
      rw [addr_add]; exact hcell _ h1
    · obtain ⟨q, hq, rfl⟩ := List.mem_map.1 hu
      have hq' := List.mem_range.1 hq
      obtain ⟨h1, h2⟩ := hget q hq'
      exact (hr _ _ _ h1 (List.getElem?_eq_getElem h2)).one
    · have hj : j < (kinds P e).length := (List.getElem?_eq_some_iff.1 hk).1
      have hlt : i * (kinds P e).length + j < ys.length * (kinds P e).length := by
        have : (i + 1) * (kinds P e).length ≤ ys.length * (kinds P e).length := Nat.mul_le_mul_right _ hi
        rw [Nat.succ_mul] at this; omega
      refine ⟨vs i j, ?_, hr i j k hi hk⟩
      rw [List.getElem?_map, List.getElem?_range hlt]
      simp only [Option.map_some, Option.some.injEq]
      have e1 : (i * (kinds P e).length + j) / (kinds P e).length = i := by
        rw [Nat.mul_comm, Nat.mul_add_div hm, Nat.div_eq_of_lt hj, Nat.add_zero]
      have e2 : (i * (kinds P e).length + j) % (kinds P e).length = j := by
        rw [Nat.mul_comm, Nat.mul_add_mod, Nat.mod_eq_of_lt hj]
      rw [e1, e2]
theorem Owns.laid {P : Program} {w : World} {F : Nat → Prop} {e : TypeId} {ys : List (List D)} {v : Value} (h : Owns P w F e ys v) : Laid P w F e ys v := by
  obtain ⟨hm, flat, hf, hr⟩ := h
  rcases hf.2 with ⟨rfl, h0⟩ | ⟨g, cap, cur, rfl, hg, hh, hnc, hcm, hsz, htake⟩
  · exact .inl ⟨0, rfl, List.eq_nil_of_length_eq_zero h0⟩
  · refine .inr ⟨⟨g, 0, none⟩, cap, flat, rfl, hf.1, fun j u hj => hf.cells rfl j u hj, fun u hu => ?_, hr⟩
    obtain ⟨q, hq⟩ := List.mem_iff_getElem?.1 hu
    have hql : q < ys.length * (kinds P e).length := by rw [← hf.1]; exact (List.getElem?_eq_some_iff.1 hq).1
    have h1 : q / (kinds P e).length < ys.length := Nat.div_lt_of_lt_mul (by rwa [Nat.mul_comm] at hql)
    have h2 : q % (kinds P e).length < (kinds P e).length := Nat.mod_lt _ hm
    obtain ⟨u', h3, h4⟩ := hr _ _ _ h1 (List.getElem?_eq_getElem h2)
    rw [Nat.mul_comm, Nat.div_add_mod, hq] at h3
    obtain rfl := Option.some.inj h3
    exact h4.one
theorem Rel.laid (h : Rel E w0 X st a cx) {x : Operand} {y : Cell} (hx : Ev.opnd E (get st) x = .p false [y]) {q : Nat} {e : TypeId} {ys : List (List D)} (hy : res (get st) y = .sl q e ys) (hm0 : 0 < (kinds cx.P e).length) : Laid cx.P cx.w (Forb cx) e ys (a.eval x) := by
  have hr : CellsRep cx 0 0 [y] [a.eval x] := (hx ▸ h.opnd 0 x : AVRep cx 0 (.p false [y]) (a.eval x))
  have hc := hr.2.2 0 y (a.eval x) rfl rfl
  have hno := opnd_cells_noOwn E (get st) h.glob x (by rw [hx]; rfl) y (by simp)
  cases y with
  | u => cases hy
  | v y => cases hy
  | sl w e1 xs1 =>
    obtain ⟨rfl, rfl, rfl⟩ := Cell.sl.inj (show Cell.sl w e1 xs1 = .sl q e ys from hy)
    cases w with
    | zero => exact RepD.laid hc hm0
    | succ n => simp [isOwn] at hno
  | ref d j =>
    obtain ⟨e', hpl⟩ := hc
    simp only [res] at hy
    cases hca : cellAt (get st d) j with
    | sl w e1 xs1 => cases w with
      | zero => rw [hca] at hy; cases hy
      | succ w =>
        rw [hca] at hy
        obtain ⟨_, rfl, rfl⟩ := Cell.sl.inj hy
        obtain ⟨v, h1, h2, _, _⟩ := h.place hca
        obtain ⟨_, hv⟩ := Prod.mk.inj (Option.some.inj (hpl.symm.trans h1))
        rw [hv]; exact h2.laid
    | _ => rw [hca] at hy; cases hy
theorem run_append_nothing {P : Program} (w : World) (t ty e : TypeId) (i : TypeInfo) (size : Nat) (ht : P.underlying t = some (.slice e)) (hi : P.info? e = some i) (v : Value) (n c : Nat) (xs : List Value) (hown : w.ownsRow 0 e size v n xs) :
    (Builtin.append_ #[t, t] ty #[v, .slice none 0 c]).run P w = .ok v w := by
  rcases hown.2 with ⟨rfl, rfl⟩ | ⟨g, cap, cur, rfl, _, _, hnc, _⟩
  · simp [Builtin.append_, run_underlying ht, sizeOf, typeInfo, hi, Builtin.lenOf, Builtin.firstCells, storeCells]
  · simp [Builtin.append_, run_underlying ht, sizeOf, typeInfo, hi, Builtin.lenOf, Builtin.firstCells, storeCells, hnc]
/-- What append does with a slice of the call's own. -/
theorem append_run {P : Program} (w : World) {F : Nat → Prop} (t ty e : TypeId) (i : TypeInfo) (z : Value) (ht : P.underlying t = some (.slice e)) (hi : P.info? e = some i) (hz : i.zero = some z) (hzs : z.cells.size = i.size) (hks : (kinds P e).length = i.size) (h0 : 0 < i.size)
    {xs ys : List (List D)} {v y : Value} (hv : Owns P w F e xs v) (hy : Laid P w F e ys y) (hb : (xs.length + ys.length) * i.bytes ≤ 140737488355328) (hl : xs.length + ys.length ≤ 4611686018427387904) :
    ∃ v' w', (Builtin.append_ #[t, t] ty #[v, y]).run P w = .ok v' w' ∧ w.grownBy w' v.ownBlock ∧ (∀ b, v'.ownBlock = some b → b < w'.heap.size ∧ (v.ownBlock = some b ∨ w.heap.size ≤ b)) ∧
      ∃ flat, w'.ownsRow 0 e (kinds P e).length v' (xs ++ ys).length flat ∧ ∀ q j k, q < (xs ++ ys).length → (kinds P e)[j]? = some k → ∃ u, flat[q * (kinds P e).length + j]? = some u ∧ RepD P w F k (((xs ++ ys).getD q []).getD j .j) u := by
  obtain ⟨hm, flat, hf, hr⟩ := hv
  rcases hy with ⟨c, rfl, rfl⟩ | ⟨ad, c, news, rfl, hnl, hnc, hn1, hnr⟩
  · refine ⟨v, w, run_append_nothing w t ty e i _ ht hi v _ c flat hf, ⟨rfl, rfl, rfl, Nat.le_refl _, fun _ _ _ => rfl⟩, fun b hb' => ⟨(hf.lt b hb').2, .inl hb'⟩, flat, by simpa using hf, by simpa using hr⟩
  · obtain ⟨v', w', hrun, hown, hg, hiff⟩ := run_append_own (P := P) w 0 t ty e i z i.size i.bytes ht hi hz rfl rfl hzs h0 v xs.length flat (by rw [← hks]; exact hf) ad ys.length c news (by rw [hnl, hks]) hnc hn1 (by unfold maxLen; omega) hb (Nat.zero_le _)
    have hvb : ∀ b, v'.ownBlock = some b → v.ownBlock = some b ∨ w.heap.size ≤ b := by
      intro b hb'
      by_cases hvb : v.ownBlock = some b
      · exact .inl hvb
      · right
        have hfr : v' = .slice none 0 0 ∨ ∃ n c, v' = .slice (some ⟨w.heap.size, 0, none⟩) n c := by
          rcases hf.2 with ⟨rfl, hx0⟩ | ⟨g, cap, cur, rfl, _, hg', hnc', hcm', hcs', _⟩
          · by_cases hy0 : ys.length = 0
            · exact .inl (hiff.2 ⟨rfl, hy0⟩)
            · have hr2 := run_append_nil (P := P) w t ty e i z ht hi hz ad ys.length c news (by rw [hnl, hks]) hnc (by omega) (by omega) (by rw [hx0] at hb; simp at hb; omega)
              rw [hrun] at hr2
              exact .inr ⟨_, _, (Result.ok.inj hr2).1⟩
          · by_cases hroom : xs.length + ys.length ≤ cap
            · exfalso
              have hfit : xs.length * i.size + news.length ≤ cur.size := by rw [hnl, hcs', hks, ← Nat.add_mul]; exact Nat.mul_le_mul_right _ hroom
              have hr2 := run_append_room (P := P) w t ty e i ht hi g xs.length cap cur hg' ad ys.length c news (by rw [hnl, hks]) hnc hn1 hroom hfit
              rw [hrun] at hr2
              rw [(Result.ok.inj hr2).1] at hb'
              exact hvb hb'
            · have hr2 := run_append_grow (P := P) w t ty e i z ht hi hz ⟨g, 0, none⟩ xs.length cap flat (by rw [hf.1, hks]) (fun j u hj => hf.cells rfl j u hj) ad ys.length c news (by rw [hnl, hks]) hnc (by omega) (by omega) (growslice_fits (by omega) hb)
              rw [hrun] at hr2
              exact .inr ⟨_, _, (Result.ok.inj hr2).1⟩
        rcases hfr with e1 | ⟨n1, c1, e1⟩
        · rw [e1] at hb'; cases hb'
        · rw [e1] at hb'; simp [Value.ownBlock] at hb'; omega
    refine ⟨v', w', hrun, hg, fun b hb' => ⟨(hown.lt b hb').2, hvb b hb'⟩, flat ++ news, by rw [hks, List.length_append]; exact hown, fun q j k hq hk => ?_⟩
    have hj : j < (kinds P e).length := (List.getElem?_eq_some_iff.1 hk).1
    by_cases hqx : q < xs.length
    · obtain ⟨u, h1, h2⟩ := hr q j k hqx hk
      refine ⟨u, ?_, ?_⟩
      · rw [List.getElem?_append_left (List.getElem?_eq_some_iff.1 h1).1]; exact h1
      · have e1 : (xs ++ ys).getD q [] = xs.getD q [] := by simp only [List.getD_eq_getElem?_getD, List.getElem?_append_left hqx]
        rw [e1]; exact h2
    · have hqx' := Nat.le_of_not_lt hqx
      have hq' : q - xs.length < ys.length := by rw [List.length_append] at hq; omega
      obtain ⟨u, h1, h2⟩ := hnr (q - xs.length) j k hq' hk
      refine ⟨u, ?_, ?_⟩
      · have hle : flat.length ≤ q * (kinds P e).length + j := by
          rw [hf.1]; exact Nat.le_trans (Nat.mul_le_mul_right _ hqx') (Nat.le_add_right _ _)
        rw [List.getElem?_append_right hle, hf.1]
        have : q * (kinds P e).length + j - xs.length * (kinds P e).length = (q - xs.length) * (kinds P e).length + j := by
          rw [Nat.sub_mul]; have := Nat.mul_le_mul_right (kinds P e).length hqx'; omega
        rw [this]; exact h1
      · have e1 : (xs ++ ys).getD q [] = ys.getD (q - xs.length) [] := by simp only [List.getD_eq_getElem?_getD, List.getElem?_append_right hqx']
        rw [e1]; exact h2
theorem zeroOk_spec {e : TypeId} {n : Nat} (h : zeroOk E e n = true) : ∃ i z, E.P.info? e = some i ∧ i.zero = some z ∧ z.cells.size = n := by
  unfold zeroOk at h
  split at h
  · rename_i i hi
    split at h
    · rename_i z hz; exact ⟨i, z, hi, hz, Nat.eq_of_beq_eq_true h⟩
    · cases h
  · cases h
theorem putO_eq (st : St) (d : Option Nat) (av : AV) : Ev.putO st d av = match d with | some d => Ev.put st d av | none => st := rfl
theorem Rel.putOwnO (h : Rel E w0 X st a cx) {d : Option Nat} (hd : ∀ x, d = some x → x < E.nt) {e : TypeId} {xs : List (List D)} {v : Value} (hv : Owns cx.P cx.w (Forb cx) e xs v)
    (hf : ∀ b, v.ownBlock = some b → b < cx.w.heap.size ∧ (w0.heap.size ≤ b ∨ X b) ∧ ∃ p, cx.O b = some p ∧ Free st p.1 p.2) :
    ∃ cx', Rel E w0 X (Ev.putO st d (.p false [.sl 1 e xs])) (a.put d v) cx' ∧ cx'.w = cx.w ∧ cx'.N = cx.N ∧ cx'.A = cx.A := by
  cases d with
  | some d => exact h.putOwn (hd d rfl) hv hf
  | none => exact ⟨cx, h, rfl, rfl, rfl⟩
/-- New blocks are given to a free place; what this place owned may have changed. -/
theorem Rel.touchNew (h : Rel E w0 X st a cx) {d i : Nat} (hfree : Free st d i) {w' : World} (ho : w'.os = cx.w.os) (ht : w'.tape = cx.w.tape) (hu : w'.output = cx.w.output) (hs : cx.w.heap.size ≤ w'.heap.size) (hb : ∀ b, b < cx.w.heap.size → cx.O b ≠ some (d, i) → w'.heap[b]? = cx.w.heap[b]?) :
    Rel E w0 X st a { cx with w := w', O := fun b => if cx.w.heap.size ≤ b ∧ b < w'.heap.size then some (d, i) else cx.O b } := by
  have hold : ∀ b, b < cx.w.heap.size → (if cx.w.heap.size ≤ b ∧ b < w'.heap.size then some (d, i) else cx.O b) = cx.O b := fun b hb => if_neg fun hh => by omega
  have hch : Ch cx { cx with w := w', O := fun b => if cx.w.heap.size ≤ b ∧ b < w'.heap.size then some (d, i) else cx.O b } (fun b => cx.O b = some (d, i)) (fun _ _ => False) (fun _ => False) :=
    ⟨rfl, rfl, fun b hb' hS => hb b hb' hS, fun b hbl hf => ⟨fun hS => hf (.inr ⟨_, hS⟩), fun hf' => hf (hf'.imp id fun ⟨p, hp⟩ => ⟨p, (hold b hbl).symm.trans hp⟩)⟩, fun _ _ _ => rfl, fun _ _ => rfl⟩
  refine ⟨h.P, h.defers, ⟨ho.trans h.kept.os, ht.trans h.kept.tape, hu.trans h.kept.output, Nat.le_trans h.kept.size hs, fun k hk hx => ?_⟩, fun b p hp => ?_, h.non, h.glob, h.nt, fun t => ?_⟩
  · rw [hb k (Nat.lt_of_lt_of_le hk h.kept.size) (fun hp => by rcases (h.own k _ hp).2 with h1 | h1; omega; exact hx h1)]
    exact h.kept.block k hk hx
  · by_cases hn : cx.w.heap.size ≤ b ∧ b < w'.heap.size
    · exact ⟨hn.2, .inl (Nat.le_trans h.kept.size hn.1)⟩
    · simp only [if_neg hn] at hp; exact ⟨Nat.lt_of_lt_of_le (h.own b p hp).1 hs, (h.own b p hp).2⟩
  · refine (h.slots t).change hch (by cases get st t <;> first | trivial | (intro; simp) | exact id | (intro c hc; cases c <;> first | trivial | exact id) | (intro p hp c hc; cases c <;> first | trivial | exact id)) (fun j c hj hoc => ⟨id, fun b hb' => ⟨(h.own b _ hb').1, fun hS => ?_, (hold b (h.own b _ hb').1).trans hb'⟩⟩) (fun w cs hbx => ⟨id, fun b hb' => ⟨(h.own b _ hb').1, fun hS => ?_, (hold b (h.own b _ hb').1).trans hb'⟩⟩)
    · rw [hb'] at hS
      obtain ⟨rfl, rfl⟩ := Prod.mk.inj (Option.some.inj hS)
      have := hfree.2 j rfl
      rw [own_at hj, hoc] at this; cases this
    · rw [hb'] at hS
      obtain ⟨rfl, rfl⟩ := Prod.mk.inj (Option.some.inj hS)
      exact hfree.1 rfl w cs hbx
theorem free_takeOut (d j : Nat) : Free (Ev.takeOut st d j) d (j + 1) := by
  refine ⟨fun h => by simp at h, fun j' hj' => ?_⟩
  obtain rfl : j = j' := by omega
  show isOwn (cellAt (get ((d, clearA (forgetRA d j (get st d)) j) :: Ev.forgetR d j st) d) j) = false
  rw [get_cons, if_pos rfl, clearA_eq, cellAt_eq, cellsIn_setAt, List.getD_eq_getElem?_getD, List.getElem?_set, if_pos rfl]
  split <;> rfl
theorem exec_append {args : Array Operand} {ts : Array TypeId} (ho : o.op = .call { callee := .builtin .append, args := args, argTypes := ts }) {s x : Operand} {t : TypeId} (ha : args.toList = [s, x]) (hts : ts.toList = [t, t]) {P : Program} {w w' : World} {v : Value} (hr : (Builtin.append_ #[t, t] o.type #[a.eval s, a.eval x]).run P w = .ok v w') : (execOp a.eval o).run P w = .ok (.value v) w' := by
  have ha' : args = #[s, x] := by rw [← Array.toArray_toList (xs := args), ha]
  have ht' : ts = #[t, t] := by rw [← Array.toArray_toList (xs := ts), hts]
  subst ha' ht'
  simp [execOp, ho, resolve, invoke, builtin, hr]
theorem Rel.q_append (h : Rel E w0 X st a cx) (hd : ∀ x, o.dst = some x → x < E.nt) {args : Array Operand} {ts : Array TypeId} (ho : o.op = .call { callee := .builtin .append, args := args, argTypes := ts }) {s x : Operand} {t : TypeId} (ha : args.toList = [s, x]) (hts : ts.toList = [t, t])
    (hav : (appendOp E st o.dst t s x).run = some st') : After E w0 X st' o a cx := by
  unfold appendOp at hav
  split at hav
  · rename_i e ht
    split at hav
    · rename_i c y i hs hx hi
      dsimp only at hav
      obtain ⟨hk, hav⟩ := bif_run hav
      simp only [Bool.and_eq_true, decide_eq_true_eq] at hk
      obtain ⟨hks, h0, hzo⟩ := hk
      have hks := Nat.eq_of_beq_eq_true hks
      obtain ⟨i', z, hi', hz, hzs⟩ := zeroOk_spec hzo
      obtain rfl := Option.some.inj (hi.symm.trans hi')
      split at hav
      · rename_i ys hys
        have hl : Laid E.P cx.w (Forb cx) e ys (a.eval x) := by
          rw [← h.P]
          split at hys
          · rename_i q e' ys' hr
            cases hb : Nat.beq e e' with
            | false => rw [hb] at hys; cases hys
            | true =>
              rw [hb] at hys
              obtain rfl := Option.some.inj hys
              obtain rfl := Nat.eq_of_beq_eq_true hb
              exact h.laid hx hr (by rw [h.P, hks]; exact h0)
          · rename_i hr
            obtain rfl := Option.some.inj hys
            have hr' : CellsRep cx 0 0 [y] [a.eval x] := (hx ▸ h.opnd 0 x : AVRep cx 0 (.p false [y]) (a.eval x))
            have hc := hr'.2.2 0 y (a.eval x) rfl rfl
            cases y with
            | v yv => have hyv : Cell.v yv = Cell.v (.slice none 0 0) := hr; cases hyv; exact .inl ⟨0, hc, rfl⟩
            | u => cases hr
            | sl ow e1 xs1 => cases hr
            | ref d j =>
              simp only [res] at hr
              split at hr <;> cases hr
          · cases hys
        split at hav
        · obtain ⟨hb, hav⟩ := br_run hav
          simp only [Bool.and_eq_true, decide_eq_true_eq] at hb
          rw [← ret_run hav]
          have hv : a.eval s = .slice none 0 0 := by
            have hr' : CellsRep cx 0 0 [.v (.slice none 0 0)] [a.eval s] := (hs ▸ h.opnd 0 s : AVRep cx 0 (.p false [.v (.slice none 0 0)]) (a.eval s))
            exact hr'.2.2 0 _ (a.eval s) rfl rfl
          have hown : Owns E.P cx.w (Forb cx) e [] (.slice none 0 0) := ⟨by rw [hks]; exact h0, [], World.ownsRow_nil _ _ _ _, fun i j k hi => by simp at hi⟩
          obtain ⟨v', w', hrun, hg, hvb, flat, hf, hr⟩ := append_run cx.w t o.type e i z ht hi hz hzs hks h0 hown hl (by simpa using hb.1) (by simpa using hb.2)
          rw [List.nil_append] at hf hr
          refine h.after_quiet hd (.inl ⟨v', w', exec_append ho ha hts (by rw [hv]; exact hrun), newSlice (by rw [h.P, hks]; exact h0) ⟨hg.os, hg.tape, hg.output, hg.size, fun b hb' => hg.block b hb' (by simp [Value.ownBlock])⟩ (flat := flat) (by rw [h.P]; exact hf) (by rw [h.P]; exact hr) fun b hb' => ?_⟩)
          rcases (hvb b hb').2 with h1 | h1
          · simp [Value.ownBlock] at h1
          · exact h1
        · rename_i d j _hv0
          split at hav
          · rename_i e' xs hca
            obtain ⟨hee, hav2⟩ := bif_run hav
            obtain rfl := Nat.eq_of_beq_eq_true hee
            obtain ⟨hb, hav⟩ := br_run hav2
            simp only [Bool.and_eq_true, decide_eq_true_eq] at hb
            rw [← ret_run hav]
            obtain ⟨v, hpl, hown, hO, _⟩ := h.place hca
            have hv : a.eval s = v := by
              have hr' : CellsRep cx 0 0 [.ref d j] [a.eval s] := (hs ▸ h.opnd 0 s : AVRep cx 0 (.p false [.ref d j]) (a.eval s))
              obtain ⟨e2, h2⟩ := hr'.2.2 0 _ (a.eval s) rfl rfl
              exact (Prod.mk.inj (Option.some.inj (h2.symm.trans hpl))).2
            rw [h.P] at hown
            obtain ⟨v', w', hrun, hg, hvb, flat, hf, hr⟩ := append_run cx.w t o.type e i z ht hi hz hzs hks h0 hown hl hb.1 hb.2
            have hblk : ∀ b, b < cx.w.heap.size → cx.O b ≠ some (d, j + 1) → w'.heap[b]? = cx.w.heap[b]? := fun b hb' hne => hg.block b hb' fun e1 => hne (hO b e1.symm)
            have h1 := (h.takeOut d j).touchNew (free_takeOut (st := st) d j) hg.os hg.tape hg.output hg.size hblk
            have hF : ∀ b, b < cx.w.heap.size → ¬ Forb cx b → w'.heap[b]? = cx.w.heap[b]? ∧ ¬ Forb { cx with w := w', O := fun b => if cx.w.heap.size ≤ b ∧ b < w'.heap.size then some (d, j + 1) else cx.O b } b := by
              intro b hbl hf'
              refine ⟨hblk b hbl fun hS => hf' (.inr ⟨_, hS⟩), fun hf2 => hf' (hf2.imp id fun ⟨p, hp⟩ => ⟨p, ?_⟩)⟩
              simpa [if_neg (show ¬ (cx.w.heap.size ≤ b ∧ b < w'.heap.size) by omega)] using hp
            have hownN : Owns cx.P w' (Forb { cx with w := w', O := fun b => if cx.w.heap.size ≤ b ∧ b < w'.heap.size then some (d, j + 1) else cx.O b }) e (xs ++ ys) v' := by
              rw [h.P]
              refine ⟨by rw [hks]; exact h0, flat, hf, fun q j' k hq hk => ?_⟩
              obtain ⟨u, h3, h4⟩ := hr q j' k hq hk
              exact ⟨u, h3, h4.change hF⟩
            have hfree : ∀ b, v'.ownBlock = some b → b < w'.heap.size ∧ (w0.heap.size ≤ b ∨ X b) ∧ ∃ p, (if cx.w.heap.size ≤ b ∧ b < w'.heap.size then some (d, j + 1) else cx.O b) = some p ∧ Free (Ev.takeOut st d j) p.1 p.2 := by
              intro b hb'
              obtain ⟨hlt, hvb'⟩ := hvb b hb'
              refine ⟨hlt, ?_, (d, j + 1), ?_, free_takeOut (st := st) d j⟩
              · rcases hvb' with h5 | h5
                · exact (h.own b _ (hO b h5)).2
                · exact .inl (Nat.le_trans h.kept.size h5)
              · by_cases hn : cx.w.heap.size ≤ b ∧ b < w'.heap.size
                · exact if_pos hn
                · rcases hvb' with h5 | h5
                  · exact (if_neg hn).trans (hO b h5)
                  · exact absurd ⟨h5, hlt⟩ hn
            obtain ⟨cx', g1, g2, g3, g4⟩ := h1.putOwnO hd hownN hfree
            exact .inl (.inl ⟨v', w', exec_append ho ha hts (by rw [hv]; exact hrun), cx', g1, g2, g3, g4⟩)
          · cases hav
        · cases hav
      · cases hav
    · cases hav
  · cases hav
end
end Go.Proofs.YtpanhndkcnojpaaDoor.Ev
