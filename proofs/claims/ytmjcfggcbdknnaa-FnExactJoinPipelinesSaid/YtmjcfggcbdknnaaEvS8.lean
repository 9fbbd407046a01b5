/- Every quiet operation of the evaluator is what the model runs. No condition. -/
import Derived.Test.YtmjcfggcbdknnaaEvS7
namespace Go.Proofs.Ytmjcfggcbdknnaa.Ev
open Go Go.RowKit
set_option linter.unusedVariables false
set_option linter.unusedSimpArgs false
def EnvOk (E : Env) : Prop := ∀ f sp, E.spec f = some sp → SpecOk E.P f sp
section
variable {E : Env} {w0 : World} {X : Nat → Prop} {st : St} {a : Act} {cx : Cx} {o : Oper} {av : AV}
theorem run_enter {P : Program} {n : Nat} {fn : Func} (h1 : P.funcs[n]? = some fn) (h2 : fn.body.isSome = true) (h3 : (fn.name == "runtime.NumGoroutine") = false) (args : Array Value) (w : World) : (callFunc n args).run P w = .ok (.enter n args) w := by
  obtain ⟨b, hb⟩ := Option.isSome_iff_exists.1 h2
  simp only [callFunc, program, bind, Sem.bind, Sem.run, h1]
  have h3' : ¬ ((fn.name == "runtime.NumGoroutine") = true) := by rw [h3]; simp
  rw [if_neg h3', hb]
  rfl
theorem mutB_false {P : Program} : ∀ {ps : List (Nat × List K)} {vs : List Value} {b : Nat}, (ps.any fun p => Nat.beq p.1 3) = false → ¬ MutB ps vs b
  | [], _, _, _, h => by cases h
  | _ :: _, [], _, _, h => by cases h
  | p :: ps, v :: vs, b, hm, h => by
    rw [List.any_cons, Bool.or_eq_false_iff] at hm
    rcases h with ⟨e, _⟩ | h
    · rw [e] at hm; cases hm.1
    · exact mutB_false (P := P) hm.2 h
theorem Rel.q_call (h : Rel E w0 X st a cx) (hE : EnvOk E) (f : Operand) (args : Array Operand) (ts : Array TypeId) (ho : o.op = .call { callee := .value f, args := args, argTypes := ts }) {n : Nat} (hf : Ev.opnd E (get st) f = .fn n) {sp : Spec} (hs : E.spec n = some sp)
    (hm : isMut sp = false) (hl : (shares E.P sp.rt && args.toList.any (lends (get st))) = false) {ds t : List D} (hp : packArgs E (get st) sp.pt args.toList = some ds) (hG : sp.G ds = some t) : Goal E o a cx (mkR sp.rt t) := by
  obtain ⟨⟨fn, h1, h2, h3⟩, hfl, hc⟩ := hE n sp hs
  have hfv : a.eval f = .func (.func n) #[] #[] := (hf ▸ h.opnd 0 f : AVRep cx 0 (.fn n) (a.eval f))
  have hargs : args.map a.eval = (args.toList.map a.eval).toArray := by apply Array.ext'; simp
  refine .inr ⟨n, (args.toList.map a.eval).toArray, ?_, ?_⟩
  · simp only [execOp, ho, resolve, hfv, Deferred.ofValue, Sem.run_bind, Sem.run_pure, Result.andThen_ok, invoke, hargs]
    rw [Array.empty_append, Array.append_empty]
    exact run_enter h1 h2 h3 _ _
  · have hmut : ∀ vs b, ¬ MutB sp.pt vs b := fun vs b => mutB_false (P := E.P) hm
    let N : Nat → Prop := fun b => shares E.P sp.rt = true ∧ Forb cx b
    have hargsR : ArgsRep E.P cx.w (fun b => N b ∨ MutB sp.pt (args.toList.map a.eval) b) sp.pt ds (args.toList.map a.eval) := by
      cases hsh : shares E.P sp.rt with
      | true =>
        rw [hsh, Bool.true_and] at hl
        refine h.packArgs_rep (.inr fun b hb => ?_) (.inr hl) hp
        rcases hb with hb | hb
        · exact hb.2
        · exact absurd hb (hmut _ b)
      | false =>
        have hF : ∀ b, ¬ (N b ∨ MutB sp.pt (args.toList.map a.eval) b) := by
          rintro b (hb | hb)
          · exact absurd hb.1 (by rw [hsh]; simp)
          · exact hmut _ b hb
        exact h.packArgs_rep (.inl hF) (.inl hF) hp
    have hN : ∀ b, N b → b < cx.w.heap.size ∧ ¬ MutB sp.pt (args.toList.map a.eval) b := by
      rintro b ⟨_, hb | ⟨p, hb⟩⟩
      · exact ⟨Nat.lt_of_lt_of_le (h.non b hb) h.kept.size, hmut _ b⟩
      · exact ⟨(h.own b p hb).1, hmut _ b⟩
    refine (hc cx.w N _ ds t hN hargsR hG).mono ?_
    rintro e w' ⟨v, rfl, hk, ⟨own, pl', hown, hr⟩, _⟩
    refine ⟨v, rfl, res_new h.P ?_ hfl (fun hs b hb => ⟨hs, hb⟩) hown hr⟩
    exact ⟨hk.os, hk.tape, hk.output, hk.size, fun b hb => hk.block b hb (hmut _ b)⟩
theorem opt_run {α : Type} {x : Option (List D)} {f : List D → Br α} {y : α} (h : (Br.opt x f).run = some y) : ∃ t, x = some t ∧ (f t).run = some y := by
  cases x with
  | none => cases h
  | some t => exact ⟨t, rfl, h⟩
theorem bif_run {α : Type} {b : Bool} {x : Br α} {y : α} (h : (bif b then x else Br.none).run = some y) : b = true ∧ x.run = some y := by
  cases b with
  | true => exact ⟨rfl, h⟩
  | false => cases h
theorem bif_run' {α : Type} {b : Bool} {x : Br α} {y : α} (h : (bif b then Br.none else x).run = some y) : b = false ∧ x.run = some y := by
  cases b with
  | false => exact ⟨rfl, h⟩
  | true => cases h
theorem ret_run {α : Type} {x y : α} (h : (Br.ret x).run = some y) : x = y := Option.some.inj h
theorem guard_agg {P : Program} {op : BinOp} {t : TypeId} {x y : Operand} {p q : Array Value} (hg : P.eqGuardType P.depth t = false) (w : World) : (eqGuard op t x y (.agg p) (.agg q)).run P w = .ok () w := by
  unfold eqGuard
  cases op <;> first | rfl | (simp [program, Sem.run, hg]; done)
def evBin (E : Env) (g : Nat → AV) (o : Oper) (op : BinOp) (t : TypeId) (x y : Operand) : Br AV :=
  match op, plainV (Ev.opnd E g x), plainV (Ev.opnd E g y) with
    | .quo, some (.int k a), some (.int k' b) => bif decide (k = k') then .br (decide (b = 0)) .none (.ret (.p false [.v (.int k (k.wrap (a.tdiv b)))])) else .none
    | .rem, some (.int k a), some (.int k' b) => bif decide (k = k') then .br (decide (b = 0)) .none (.ret (.p false [.v (.int k (a.tmod b))])) else .none
    | .shl, some (.int k a), some (.int _ b) => .br (decide (b < 0)) .none (.ret (.p false [.v (.int k (k.wrap (a * 2 ^ min b.toNat k.bits)))]))
    | .shr, some (.int k a), some (.int _ b) => .br (decide (b < 0)) .none (.ret (.p false [.v (.int k (a.fdiv (2 ^ min b.toNat k.bits)))]))
    | .add, some (.string a), some (.string b) => .br (decide (a.size + b.size ≤ 140737488355328)) (.ret (.p false [.v (.string (a ++ b))])) .none
    | .eql, some (.agg a), some (.agg b) => match eqV E Op.maxDepth t (.agg a) (.agg b) with
      | some r => bif E.P.eqGuardType E.P.depth t then .none else .ret (.p false [.v (.bool r)])
      | none => .none
    | .neq, some (.agg a), some (.agg b) => match eqV E Op.maxDepth t (.agg a) (.agg b) with
      | some r => bif E.P.eqGuardType E.P.depth t then .none else .ret (.p false [.v (.bool !r)])
      | none => .none
    | _, some _, some _ => evPlain E g o
    | _, _, _ => .none
theorem Rel.q_binop (h : Rel E w0 X st a cx) (op : BinOp) (t : TypeId) (x y : Operand) (yt : TypeId) (ho : o.op = .binOp op t x y yt) (hav : (evBin E (get st) o op t x y).run = some av) : Goal E o a cx av := by
  unfold evBin at hav
  split at hav
  · rename_i k a' k' b hp hq
    obtain ⟨hk, hav2⟩ := bif_run hav
    obtain rfl : k = k' := of_decide_eq_true hk
    obtain ⟨hb, hav⟩ := br_run' hav2
    rw [← ret_run hav]
    refine h.q_bin _ t x y yt ho hp hq ?_ rfl
    have hb0 : b ≠ 0 := of_decide_eq_false hb
    simp [guard_quiet, binOp, Op.intDiv, hb0]
  · rename_i k a' k' b hp hq
    obtain ⟨hk, hav2⟩ := bif_run hav
    obtain rfl : k = k' := of_decide_eq_true hk
    obtain ⟨hb, hav⟩ := br_run' hav2
    rw [← ret_run hav]
    refine h.q_bin _ t x y yt ho hp hq ?_ rfl
    have hb0 : b ≠ 0 := of_decide_eq_false hb
    simp [guard_quiet, binOp, Op.intDiv, hb0]
  · rename_i k a' k' b hp hq
    obtain ⟨hb, hav⟩ := br_run' hav
    rw [← ret_run hav]
    refine h.q_bin _ t x y yt ho hp hq ?_ rfl
    have hb0 : ¬ b < 0 := of_decide_eq_false hb
    simp only [Sem.run_bind, guard_quiet .shl _ _ _ _ _ (by simp), Result.andThen_ok, binOp, Op.shift, if_neg hb0, Sem.run_pure]
  · rename_i k a' k' b hp hq
    obtain ⟨hb, hav⟩ := br_run' hav
    rw [← ret_run hav]
    refine h.q_bin _ t x y yt ho hp hq ?_ rfl
    have hb0 : ¬ b < 0 := of_decide_eq_false hb
    simp only [Sem.run_bind, guard_quiet .shr _ _ _ _ _ (by simp), Result.andThen_ok, binOp, Op.shift, if_neg hb0, Sem.run_pure]
  · rename_i p q hp hq
    obtain ⟨hb, hav⟩ := br_run hav
    rw [← ret_run hav]
    refine h.q_bin _ t x y yt ho hp hq ?_ rfl
    have hb0 : p.size + q.size ≤ 140737488355328 := of_decide_eq_true hb
    have hn : ¬ (((p.size + q.size : Nat) : Int) > IntKind.i64.max) := by
      have : IntKind.i64.max = 9223372036854775807 := by decide
      omega
    simp only [Sem.run_bind, guard_quiet .add _ _ _ _ _ (by simp), Result.andThen_ok, binOp, Op.stringOp, if_neg hn, Sem.run_pure]
  · rename_i p q hp hq
    split at hav
    · rename_i r hr
      obtain ⟨hg, hav⟩ := bif_run' hav
      rw [← ret_run hav]
      refine h.q_bin _ t x y yt ho hp hq ?_ rfl
      simp only [Sem.run_bind, guard_agg hg, Result.andThen_ok, binOp, Op.equal, eqV_run _ _ _ _ _ hr, Sem.run_pure]
    · cases hav
  · rename_i p q hp hq
    split at hav
    · rename_i r hr
      obtain ⟨hg, hav⟩ := bif_run' hav
      rw [← ret_run hav]
      refine h.q_bin _ t x y yt ho hp hq ?_ rfl
      simp only [Sem.run_bind, guard_agg hg, Result.andThen_ok, binOp, Op.equal, eqV_run _ _ _ _ _ hr, Sem.run_pure]
    · cases hav
  · exact h.q_plain (by rw [ho]; simp) hav
  · cases hav
theorem evQ_sound (h : Rel E w0 X st a cx) (hE : EnvOk E) (hm : ∀ c, o.op = .call c → ∀ f n sp, c.callee = .value f → Ev.opnd E (get st) f = .fn n → E.spec n = some sp → isMut sp = false) (hav : (evQ E (get st) o).run = some av) : Goal E o a cx av := by
  unfold evQ at hav
  split at hav
  · rename_i x ho; exact h.q_move x (.inl ho) hav
  · rename_i x ho; exact h.q_move x (.inr ho) hav
  · rename_i c x y ho
    split at hav
    · rename_i t hc; exact h.q_pick c x y ho hc hav
    · cases hav
  · rename_i e ho
    split at hav
    · rename_i cs hz; rw [← ret_run hav]; exact h.q_alloc e ho hz
    · cases hav
  · rename_i e x ho
    split at hav
    · rename_i cs hz; rw [← ret_run hav]; exact h.q_box e x ho hz
    · cases hav
  · rename_i t parts ho
    obtain ⟨hok, hav⟩ := bif_run' hav
    split at hav
    · rename_i z hz
      split at hav
      · rename_i cs hf; rw [← ret_run hav]; exact h.q_build t parts ho (by simpa using hok) hz hf
      · cases hav
    · cases hav
  · rename_i t x ho; exact h.q_load t x ho hav
  · rename_i x ho
    split at hav
    · rename_i d n e; exact h.q_nilCheck x ho (.inl ⟨d, n, e⟩) (e.trans (ret_run hav))
    · rename_i d j i n e; exact h.q_nilCheck x ho (.inr (.inl ⟨d, j, i, n, e⟩)) (e.trans (ret_run hav))
    · rename_i cs n e; exact h.q_nilCheck x ho (.inr (.inr ⟨cs, n, e⟩)) (e.trans (ret_run hav))
    · cases hav
  · rename_i s x f ho
    split at hav
    · rename_i fd d n hf e; exact h.q_fieldAddr s x f ho hf (.inl ⟨d, n, e, (ret_run hav).symm⟩)
    · rename_i fd d j i n hf e; exact h.q_fieldAddr s x f ho hf (.inr (.inl ⟨d, j, i, n, e, (ret_run hav).symm⟩))
    · rename_i fd cs n hf e; exact h.q_fieldAddr s x f ho hf (.inr (.inr ⟨cs, n, e, (ret_run hav).symm⟩))
    · cases hav
  · rename_i s x f ho
    split at hav
    · rename_i fd cs hf e; exact h.q_field s x f ho hf e hav
    · cases hav
  · rename_i t x ix ho
    split at hav
    · rename_i c kd i e hx hi ht
      obtain ⟨hk, hav⟩ := bif_run' hav
      simp only [Bool.not_eq_false', Bool.and_eq_true] at hk
      have hsz : (kinds E.P e).length = sizeP E.P e := Nat.eq_of_beq_eq_true hk.1
      have h0 : 0 < sizeP E.P e := Nat.le_of_ble_eq_true hk.2
      split at hav
      · rename_i d j w e' xs hv0 hr
        obtain ⟨hee, hav2⟩ := bif_run hav
        obtain rfl := Nat.eq_of_beq_eq_true hee
        obtain ⟨hb, hav⟩ := br_run hav2
        have hca : cellAt (get st d) j = .sl (w + 1) e xs := by
          simp only [res] at hr
          split at hr
          · rename_i o1 e1 xs1 hc1; rw [hc1]; exact hr
          · cases hr
        exact h.q_index t e x ix ho hx hi ht hsz h0 xs hb (.inl ⟨d, j, w, rfl, hca, (ret_run hav).symm⟩)
      · rename_i e' xs hv0
        obtain ⟨hee, hav2⟩ := bif_run hav
        obtain rfl := Nat.eq_of_beq_eq_true hee
        obtain ⟨hb, hav⟩ := br_run hav2
        exact h.q_index t e x ix ho hx hi ht hsz h0 xs hb (.inr ⟨rfl, (ret_run hav).symm⟩)
      · cases hav
    · cases hav
  · rename_i t x ix ho
    split at hav
    · rename_i cs kd i n e hx hi ht
      obtain ⟨hk, hav⟩ := bif_run hav
      simp only [Bool.and_eq_true, Bool.not_eq_true'] at hk
      obtain ⟨k1, k2, k3, k4⟩ := hk
      have hn := Nat.eq_of_beq_eq_true k1
      split at hav
      · rename_i k q hq
        split at hav
        · rename_i ns hns
          obtain ⟨hb, hav⟩ := br_run hav
          rw [← ret_run hav]
          have hl := intsOf_spec hns
          have hlen : ns.length = n := by have := congrArg List.length hl; simp at this; omega
          have hb' := hb
          simp only [Bool.and_eq_true, decide_eq_true_eq] at hb'
          refine h.q_idxarr t e x ix ho hx hi ht hn (Nat.eq_of_beq_eq_true k2) k3 k4 hb ?_ rfl
          have hlt : i.toNat < ns.length := by omega
          rw [hl, List.getElem?_map, List.getElem?_eq_getElem hlt, List.getD_eq_getElem?_getD, List.getElem?_eq_getElem hlt]; rfl
        · cases hav
      · rename_i q hq
        split at hav
        · rename_i ns hns
          obtain ⟨hb, hav⟩ := br_run hav
          rw [← ret_run hav]
          have hl := strsOf_spec hns
          have hlen : ns.length = n := by have := congrArg List.length hl; simp at this; omega
          have hb' := hb
          simp only [Bool.and_eq_true, decide_eq_true_eq] at hb'
          refine h.q_idxarr t e x ix ho hx hi ht hn (Nat.eq_of_beq_eq_true k2) k3 k4 hb ?_ rfl
          have hlt : i.toNat < ns.length := by omega
          rw [hl, List.getElem?_map, List.getElem?_eq_getElem hlt, List.getD_eq_getElem?_getD, List.getElem?_eq_getElem hlt]; rfl
        · cases hav
      · cases hav
    · rename_i s kd i hx hi ht
      obtain ⟨hb, hav⟩ := br_run hav
      rw [← ret_run hav]
      exact h.q_idxstr t x ix ho hx hi ht hb
    · cases hav
  · rename_i t x lo hi ho
    split at hav
    · rename_i s hx ht
      dsimp only at hav
      split at hav
      · rename_i l u hl hu
        obtain ⟨hb, hav⟩ := br_run hav
        rw [← ret_run hav]
        refine h.q_slicestr t x lo hi ho hx ht ?_ ?_ hb
        · split at hl
          · exact .inl ⟨rfl, (Option.some.inj hl).symm⟩
          · rename_i y
            split at hl
            · rename_i k n hn; obtain rfl := Option.some.inj hl; exact .inr ⟨y, k, rfl, hn⟩
            · cases hl
        · split at hu
          · exact .inl ⟨rfl, (Option.some.inj hu).symm⟩
          · rename_i y
            split at hu
            · rename_i k n hn; obtain rfl := Option.some.inj hu; exact .inr ⟨y, k, rfl, hn⟩
            · cases hu
      · cases hav
    · exact h.q_plain (fun cs b e => by rw [ho] at e; cases e) hav
    · cases hav
  · rename_i x i ho
    split at hav
    · rename_i ps hx
      split at hav
      · rename_i ag cs hp; rw [← ret_run hav]; exact h.q_extract x i ho hx hp
      · cases hav
    · cases hav
  · rename_i t len parts ho
    split at hav
    · rename_i e ht
      dsimp only at hav
      split at hav
      · rename_i z hz
        obtain ⟨hb, hav⟩ := bif_run hav
        split at hav
        · rename_i cs hf
          split at hav
          · rename_i rs hp; rw [← ret_run hav]; exact h.q_buildSlice t e len parts ho ht hz hb hf hp
          · cases hav
        · cases hav
      · cases hav
    · cases hav
  · rename_i t x y ho
    split at hav
    · rename_i e l c ht hx hy
      split at hav
      · rename_i i z hi hz
        dsimp only at hav
        obtain ⟨hb, hav⟩ := bif_run hav
        split at hav
        · rename_i row hp
          obtain ⟨hc, hav⟩ := br_run hav
          rw [← ret_run hav]
          exact h.q_makeSlice t e x y ho ht hx hy hi hz hb hp hc
        · cases hav
      · cases hav
    · cases hav
  · rename_i op t x y yt ho
    exact h.q_binop op t x y yt ho hav
  · rename_i args ts ho
    split at hav
    · rename_i x t ha hts
      split at hav
      · rename_i c hx
        split at hav
        · rename_i q e xs e' hc ht
          rw [← ret_run hav]
          exact h.q_len x t args ts ho ha hts hx hc ht
        · exact h.q_plain (by rw [ho]; simp) hav
        · cases hav
      · cases hav
    · cases hav
  · rename_i f args ts ho
    split at hav
    · rename_i n hf
      split at hav
      · rename_i sp hs
        obtain ⟨hl, hav⟩ := bif_run' hav
        split at hav
        · rename_i ds hp
          obtain ⟨t, hG, hav⟩ := opt_run hav
          rw [← ret_run hav]
          exact h.q_call hE f args ts ho hf hs (hm _ ho f n sp rfl hf hs) hl hp hG
        · cases hav
      · cases hav
    · cases hav
  · rename_i ho; exact h.q_plain (by rw [ho]; simp) hav
  · rename_i ho; exact h.q_plain (by rw [ho]; simp) hav
  · rename_i ho; exact h.q_plain (by rw [ho]; simp) hav
  · rename_i ho; exact h.q_plain (by rw [ho]; simp) hav
  · rename_i ho; exact h.q_plain (by rw [ho]; simp) hav
  · cases hav
end
end Go.Proofs.Ytmjcfggcbdknnaa.Ev
