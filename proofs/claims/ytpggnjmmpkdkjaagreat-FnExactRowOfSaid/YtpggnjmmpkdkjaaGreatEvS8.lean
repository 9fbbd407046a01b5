/- Every quiet operation of the evaluator is what the model runs. No condition. -/
import Derived.Test.YtpggnjmmpkdkjaaGreatEvS7
import Derived.Laws.BytesString
namespace Go.Proofs.YtpggnjmmpkdkjaaGreat.Ev
open Go Go.RowKit
set_option linter.unusedVariables false
set_option linter.unusedSimpArgs false
def EnvOk (E : Env) : Prop := ∀ f sp, E.spec f = some sp → SpecOk E.P E.glob f sp
section
variable {E : Env} {w0 : World} {X : Nat → Prop} {st : St} {a : Act} {cx : Cx} {o : Oper} {av : AV}
theorem run_enter {P : Program} {n : Nat} {fn : Func} (h1 : P.funcs[n]? = some fn) (h2 : fn.body.isSome = true) (h3 : (fn.name == "runtime.NumGoroutine") = false) (args : Array Value) (w : World) : (callFunc n args).run P w = .ok (.enter n args) w := by
  obtain ⟨b, hb⟩ := Option.isSome_iff_exists.1 h2
  simp only [callFunc, program, bind, Sem.bind, Sem.run, h1]
  have h3' : ¬ ((fn.name == "runtime.NumGoroutine") = true) := by rw [h3]; simp
  rw [if_neg h3', hb]
  rfl
theorem mutB_false {P : Program} : ∀ {ps : List (Nat × List K)} {vs : List Value} {b : Nat}, (ps.any fun p => Nat.beq p.1 3) = false → ¬ MutB ps vs b
  | [], _, _, _, h => by cases h
  | _ :: _, [], _, _, h => by cases h
  | p :: ps, v :: vs, b, hm, h => by
    rw [List.any_cons, Bool.or_eq_false_iff] at hm
    rcases h with ⟨e, _⟩ | h
    · rw [e] at hm; cases hm.1
    · exact mutB_false (P := P) hm.2 h
/-- A call of a function value, with what it has captured. -/
theorem Rel.q_callV (h : Rel E w0 X st a cx) (hE : EnvOk E) (f : Operand) (args : Array Operand) (ts : Array TypeId) (ho : o.op = .call { callee := .value f, args := args, argTypes := ts }) {n : Nat} {caps : List Value} (hfv : a.eval f = .func (.func n) #[] caps.toArray) {sp : Spec} (hs : E.spec n = some sp)
    (hm : isMut sp = false) {ds t : List D} (hp : ∀ F : Nat → Prop, ((∀ b, ¬ F b) ∨ shares E.P sp.rt = true ∧ ∀ b, F b → Forb cx b) → ArgsRep E.P cx.w F sp.pt ds (args.toList.map a.eval ++ caps)) (hG : sp.G ds = some t) : Goal E o a cx (mkR sp.rt t) := by
  obtain ⟨hfl, hdo⟩ := hE n sp hs
  have hargs : args.map a.eval = (args.toList.map a.eval).toArray := by apply Array.ext'; simp
  have hexec : (execOp a.eval o).run E.P cx.w = (callFunc n (args.toList.map a.eval ++ caps).toArray).run E.P cx.w := by
    simp only [execOp, ho, resolve, hfv, Deferred.ofValue, Sem.run_bind, Sem.run_pure, Result.andThen_ok, invoke, hargs]
    rw [Array.empty_append, List.append_toArray]
  have hmut : ∀ vs b, ¬ MutB sp.pt vs b := fun vs b => mutB_false (P := E.P) hm
  let N : Nat → Prop := fun b => shares E.P sp.rt = true ∧ Forb cx b
  have hargsR : ArgsRep E.P cx.w (fun b => N b ∨ MutB sp.pt (args.toList.map a.eval ++ caps) b) sp.pt ds (args.toList.map a.eval ++ caps) := by
    refine hp _ ?_
    cases hsh : shares E.P sp.rt with
    | true =>
      refine .inr ⟨rfl, fun b hb => ?_⟩
      rcases hb with hb | hb
      · exact hb.2
      · exact absurd hb (hmut _ b)
    | false =>
      refine .inl ?_
      rintro b (hb | hb)
      · exact absurd hb.1 (by rw [hsh]; simp)
      · exact hmut _ b hb
  have hN : ∀ b, N b → b < cx.w.heap.size ∧ ¬ MutB sp.pt (args.toList.map a.eval ++ caps) b := by
    rintro b ⟨_, hb | ⟨p, hb⟩⟩
    · exact ⟨Nat.lt_of_lt_of_le (h.non b hb) h.kept.size, hmut _ b⟩
    · exact ⟨(h.own b p hb).1, hmut _ b⟩
  have new : ∀ {v : Value} {w' : World}, ResOk E.P cx.w w' N sp (args.toList.map a.eval ++ caps) t v → New cx w' (mkR sp.rt t) v := by
    rintro v w' ⟨hk, ⟨own, pl', hown, hr⟩, _⟩
    refine res_new h.P ?_ hfl (fun hs b hb => ⟨hs, hb⟩) hown hr
    exact ⟨hk.os, hk.tape, hk.output, hk.size, fun b hb => hk.block b hb (hmut _ b)⟩
  have hgl : GlobsAt E.glob cx.w fun b => MutB sp.pt (args.toList.map a.eval ++ caps) b ∨ N b := h.globAt fun b hb => hb.elim (fun h => absurd h (hmut _ b)) (·.2)
  rcases hdo cx.w N _ ds t hN hgl hargsR hG with ⟨⟨fn, h1, h2, h3⟩, hc⟩ | ⟨_, v, hrun, hres⟩
  · refine .inr ⟨n, (args.toList.map a.eval ++ caps).toArray, by rw [hexec]; exact run_enter h1 h2 h3 _ _, ?_⟩
    refine hc.mono ?_
    rintro e w' ⟨v, rfl, hres⟩
    exact ⟨v, rfl, new hres⟩
  · exact .inl ⟨v, cx.w, hexec.trans hrun, new hres⟩
theorem Rel.q_callN (h : Rel E w0 X st a cx) (hE : EnvOk E) (f : Operand) (args : Array Operand) (ts : Array TypeId) (ho : o.op = .call { callee := .value f, args := args, argTypes := ts }) {n : Nat} (hfv : a.eval f = .func (.func n) #[] #[]) {sp : Spec} (hs : E.spec n = some sp)
    (hm : isMut sp = false) (hl : (shares E.P sp.rt && args.toList.any (lends (get st))) = false) {ds t : List D} (hp : packArgs E (get st) sp.pt args.toList = some ds) (hG : sp.G ds = some t) : Goal E o a cx (mkR sp.rt t) := by
  refine h.q_callV hE f args ts ho (caps := []) hfv hs hm (fun F hF => ?_) hG
  rw [List.append_nil]
  rcases hF with hF | ⟨hsh, hF⟩
  · exact h.packArgs_rep (.inl hF) (.inl hF) hp
  · rw [hsh, Bool.true_and] at hl
    exact h.packArgs_rep (.inr hF) (.inr hl) hp
theorem Rel.q_call (h : Rel E w0 X st a cx) (hE : EnvOk E) (f : Operand) (args : Array Operand) (ts : Array TypeId) (ho : o.op = .call { callee := .value f, args := args, argTypes := ts }) {n : Nat} (hf : Ev.opnd E (get st) f = .fn n) {sp : Spec} (hs : E.spec n = some sp)
    (hm : isMut sp = false) (hl : (shares E.P sp.rt && args.toList.any (lends (get st))) = false) {ds t : List D} (hp : packArgs E (get st) sp.pt args.toList = some ds) (hG : sp.G ds = some t) : Goal E o a cx (mkR sp.rt t) :=
  h.q_callN hE f args ts ho (hf ▸ h.opnd 0 f : AVRep cx 0 (.fn n) (a.eval f)) hs hm hl hp hG
theorem packArgs_noMut {g : Nat → AV} : ∀ {ps : List (Nat × List K)} {xs : List Operand} {ds : List D}, packArgs E g ps xs = some ds → (ps.any fun p => Nat.beq p.1 3) = false
  | [], _, _, _ => rfl
  | _ :: _, [], _, hp => by cases hp
  | p :: ps, x :: xs, ds, hp => by
    simp only [packArgs] at hp
    split at hp
    · rename_i d ds' h1 h2
      rw [List.any_cons, packArgs_noMut h2, Bool.or_false]
      cases h3 : Nat.beq p.1 3 with
      | false => rfl
      | true =>
        obtain ⟨f, ks⟩ := p
        obtain rfl : f = 3 := Nat.eq_of_beq_eq_true h3
        cases h0 : Nat.beq ks.length 0 with
        | true => rw [h0] at h1; cases h1
        | false =>
          rw [h0, cond_false] at h1
          exfalso
          unfold packArg at h1
          generalize opnd E g x = q at h1
          cases q <;> cases h1
    · cases hp
/-- What a function value in a cell is. -/
theorem Rel.fnCell (h : Rel E w0 X st a cx) {f : Operand} {e : TypeId} {xs : List (List D)} (hf : Ev.opnd E (get st) f = .p false [.sl 0 e xs]) (hk : (kinds E.P e).length = 0) :
    (isFnT e = true → a.eval f = .func (.func (fnOfT e)) #[] #[]) ∧ (isFnT e = false → isCloT e = true → ∃ b, ¬ Forb cx b ∧ cx.w.cell? ⟨b, 0, none⟩ = some (.func (.func (cloG e)) #[] #[]) ∧ a.eval f = .func (.func (cloF e)) #[] #[.pointer (some ⟨b, 0, none⟩)]) := by
  have hr : CellsRep cx 0 0 [.sl 0 e xs] [a.eval f] := (hf ▸ h.opnd 0 f : AVRep cx 0 (.p false [.sl 0 e xs]) (a.eval f))
  have hcr : RepD cx.P cx.w (Forb cx) (.sl e) (.l xs) (a.eval f) := hr.2.2 0 _ (a.eval f) rfl rfl
  rw [h.P] at hcr
  generalize a.eval f = v at hcr
  have hx : isFnT e = true → isCloT e = true → False := by
    intro h1 h2
    unfold isFnT at h1
    unfold isCloT at h2
    rw [Bool.and_eq_true] at h1
    exact Nat.lt_irrefl _ (Nat.lt_of_lt_of_le (Nat.le_of_ble_eq_true h1.2) (Nat.le_of_ble_eq_true h2))
  cases hcr with
  | fn _ _ he hk' => exact ⟨fun _ => rfl, fun h1 => by rw [he] at h1; cases h1⟩
  | clo _ _ b he hk' hF hc => exact ⟨fun h1 => (hx h1 he).elim, fun _ _ => ⟨b, hF, hc, rfl⟩⟩
  | nil _ _ ad c h0 hk' =>
    have hb : Nat.blt e 1000000000 = true := by rcases hk' with h1 | h1 <;> omega
    have hb' := Nat.le_of_ble_eq_true hb
    refine ⟨fun h1 => ?_, fun _ h1 => ?_⟩
    · unfold isFnT at h1
      rw [Bool.and_eq_true] at h1
      exact (Nat.lt_irrefl _ (Nat.lt_of_lt_of_le hb' (Nat.le_of_ble_eq_true h1.1))).elim
    · have h2 := Nat.le_of_ble_eq_true h1
      exact (Nat.lt_irrefl _ (Nat.lt_of_lt_of_le hb' (Nat.le_trans (by decide) h2))).elim
  | sl _ _ b o c n vs hn h0 hm => omega
theorem Rel.packClo_rep (h : Rel E w0 X st a cx) {F : Nat → Prop} (hF : (∀ b, ¬ F b) ∨ ∀ b, F b → Forb cx b) {q : Nat × List K} {u : Value} {dq : List D} (hq : ArgRep E.P cx.w F q dq u) : ∀ {ps : List (Nat × List K)} {xs : List Operand} {ds : List D}, ((∀ b, ¬ F b) ∨ xs.any (lends (get st)) = false) → packArgs E (get st) ps xs = some ds → ArgsRep E.P cx.w F (ps ++ [q]) (ds ++ dq) (xs.map a.eval ++ [u])
  | [], [], ds, _, hp => by
    obtain rfl := Option.some.inj hp
    exact ⟨hq, trivial⟩
  | [], _ :: _, _, _, hp => by cases hp
  | _ :: _, [], _, _, hp => by cases hp
  | p :: ps, x :: xs, ds, hl, hp => by
    simp only [packArgs] at hp
    split at hp
    · rename_i d ds' h1 h2
      obtain rfl := Option.some.inj hp
      cases h0 : Nat.beq p.2.length 0 with
      | true => rw [h0] at h1; cases h1
      | false =>
        rw [h0, cond_false] at h1
        have hpos : 0 < p.2.length := Nat.pos_of_ne_zero fun e => by rw [e] at h0; cases h0
        obtain ⟨g1, g2⟩ := h.packArg_rep hF (hl.imp id fun hh => by rw [List.any_cons, Bool.or_eq_false_iff] at hh; exact hh.1) h1 hpos (ds' ++ dq)
        rw [List.append_assoc]
        refine ⟨g2, ?_⟩
        rw [← g1, List.drop_left]
        exact h.packClo_rep hF hq (hl.imp id fun hh => by rw [List.any_cons, Bool.or_eq_false_iff] at hh; exact hh.2) h2
    · cases hp
theorem lastCap_spec {pt : List (Nat × List K)} {e : TypeId} (h : lastCap pt e = true) : pt = pt.dropLast ++ [(2, [.sl (1000000000 + cloG e)])] := by
  unfold lastCap at h
  split at h
  · rename_i e' hl
    have h' := Nat.eq_of_beq_eq_true h
    obtain ⟨l, hl'⟩ := List.getLast?_eq_some_iff.1 hl
    rw [hl', List.dropLast_concat, h']
  · cases h
theorem Rel.q_callC (h : Rel E w0 X st a cx) (hE : EnvOk E) (f : Operand) (args : Array Operand) (ts : Array TypeId) (ho : o.op = .call { callee := .value f, args := args, argTypes := ts }) {e : TypeId} {xs : List (List D)} (hf : Ev.opnd E (get st) f = .p false [.sl 0 e xs]) (hk : (kinds E.P e).length = 0) (hfn : isFnT e = false) (hcl : isCloT e = true) {sp : Spec} (hs : E.spec (cloF e) = some sp)
    (hlast : lastCap sp.pt e = true) (hkf : (kinds E.P (1000000000 + cloG e)).length = 0) (hl : (shares E.P sp.rt && args.toList.any (lends (get st))) = false) {ds t : List D} (hp : packArgs E (get st) sp.pt.dropLast args.toList = some ds) (hG : sp.G (ds ++ [.l []]) = some t) : Goal E o a cx (mkR sp.rt t) := by
  obtain ⟨b, hb, hc, hv⟩ := (h.fnCell hf hk).2 hfn hcl
  have hpt := lastCap_spec hlast
  have hg : cloG e < 100000 := Nat.mod_lt _ (by decide)
  have hm : isMut sp = false := by
    unfold isMut
    rw [hpt, List.any_append, packArgs_noMut hp]
    rfl
  refine h.q_callV hE f args ts ho (caps := [.pointer (some ⟨b, 0, none⟩)]) hv hs hm (fun F hF => ?_) hG
  have hFb : ¬ F b := by
    rcases hF with hF | ⟨_, hF⟩
    · exact hF b
    · exact fun hh => hb (hF b hh)
  have hq : ArgRep E.P cx.w F (2, [.sl (1000000000 + cloG e)]) [.l []] (.pointer (some ⟨b, 0, none⟩)) := by
    refine ⟨b, 0, [.func (.func (cloG e)) #[] #[]], rfl, Nat.one_pos, hFb, fun j u hj => ?_, rfl, fun j k u h1 h2 => ?_⟩
    · cases j with
      | zero => obtain rfl := Option.some.inj hj; exact hc
      | succ j => simp at hj
    · cases j with
      | zero =>
        obtain rfl := Option.some.inj h1
        obtain rfl := Option.some.inj h2
        have he : isFnT (1000000000 + cloG e) = true := by
          unfold isFnT
          rw [Bool.and_eq_true]
          exact ⟨Nat.ble_eq_true_of_le (by omega), Nat.ble_eq_true_of_le (by omega)⟩
        have := RepD.fn (P := E.P) (w := cx.w) (F := F) (1000000000 + cloG e) ([D.l []].getD 0 .j) he hkf
        rw [show fnOfT (1000000000 + cloG e) = cloG e by unfold fnOfT; omega] at this
        exact this
      | succ j => simp at h1
  rw [hpt]
  rcases hF with hF | ⟨hsh, hF⟩
  · exact h.packClo_rep (.inl hF) hq (.inl hF) hp
  · rw [hsh, Bool.true_and] at hl
    exact h.packClo_rep (.inr hF) hq (.inr hl) hp
theorem opt_run {α : Type} {x : Option (List D)} {f : List D → Br α} {y : α} (h : (Br.opt x f).run = some y) : ∃ t, x = some t ∧ (f t).run = some y := by
  cases x with
  | none => cases h
  | some t => exact ⟨t, rfl, h⟩
theorem bif_run {α : Type} {b : Bool} {x : Br α} {y : α} (h : (bif b then x else Br.none).run = some y) : b = true ∧ x.run = some y := by
  cases b with
  | true => exact ⟨rfl, h⟩
  | false => cases h
theorem bif_run' {α : Type} {b : Bool} {x : Br α} {y : α} (h : (bif b then Br.none else x).run = some y) : b = false ∧ x.run = some y := by
  cases b with
  | false => exact ⟨rfl, h⟩
  | true => cases h
theorem ret_run {α : Type} {x y : α} (h : (Br.ret x).run = some y) : x = y := Option.some.inj h
theorem guard_agg {P : Program} {op : BinOp} {t : TypeId} {x y : Operand} {p q : Array Value} (hg : P.eqGuardType P.depth t = false) (w : World) : (eqGuard op t x y (.agg p) (.agg q)).run P w = .ok () w := by
  unfold eqGuard
  cases op <;> first | rfl | (simp [program, Sem.run, hg]; done)
def evBin (E : Env) (g : Nat → AV) (o : Oper) (op : BinOp) (t : TypeId) (x y : Operand) : Br AV :=
  match op, plainV (Ev.opnd E g x), plainV (Ev.opnd E g y) with
    | .quo, some (.int k a), some (.int k' b) => bif decide (k = k') then .br (decide (b = 0)) .none (.ret (.p false [.v (.int k (k.wrap (a.tdiv b)))])) else .none
    | .rem, some (.int k a), some (.int k' b) => bif decide (k = k') then .br (decide (b = 0)) .none (.ret (.p false [.v (.int k (a.tmod b))])) else .none
    | .shl, some (.int k a), some (.int _ b) => .br (decide (b < 0)) .none (.ret (.p false [.v (.int k (k.wrap (a * 2 ^ min b.toNat k.bits)))]))
    | .shr, some (.int k a), some (.int _ b) => .br (decide (b < 0)) .none (.ret (.p false [.v (.int k (a.fdiv (2 ^ min b.toNat k.bits)))]))
    | .add, some (.string a), some (.string b) => .br (decide (a.size + b.size ≤ 140737488355328)) (.ret (.p false [.v (.string (a ++ b))])) .none
    | .eql, some (.agg a), some (.agg b) => match eqV E Op.maxDepth t (.agg a) (.agg b) with
      | some r => bif E.P.eqGuardType E.P.depth t then .none else .ret (.p false [.v (.bool r)])
      | none => .none
    | .neq, some (.agg a), some (.agg b) => match eqV E Op.maxDepth t (.agg a) (.agg b) with
      | some r => bif E.P.eqGuardType E.P.depth t then .none else .ret (.p false [.v (.bool !r)])
      | none => .none
    | _, some _, some _ => evPlain E g o
    | _, _, _ => .none
theorem Rel.q_binop (h : Rel E w0 X st a cx) (op : BinOp) (t : TypeId) (x y : Operand) (yt : TypeId) (ho : o.op = .binOp op t x y yt) (hav : (evBin E (get st) o op t x y).run = some av) : Goal E o a cx av := by
  unfold evBin at hav
  split at hav
  · rename_i k a' k' b hp hq
    obtain ⟨hk, hav2⟩ := bif_run hav
    obtain rfl : k = k' := of_decide_eq_true hk
    obtain ⟨hb, hav⟩ := br_run' hav2
    rw [← ret_run hav]
    refine h.q_bin _ t x y yt ho hp hq ?_ rfl
    have hb0 : b ≠ 0 := of_decide_eq_false hb
    simp [guard_quiet, binOp, Op.intDiv, hb0]
  · rename_i k a' k' b hp hq
    obtain ⟨hk, hav2⟩ := bif_run hav
    obtain rfl : k = k' := of_decide_eq_true hk
    obtain ⟨hb, hav⟩ := br_run' hav2
    rw [← ret_run hav]
    refine h.q_bin _ t x y yt ho hp hq ?_ rfl
    have hb0 : b ≠ 0 := of_decide_eq_false hb
    simp [guard_quiet, binOp, Op.intDiv, hb0]
  · rename_i k a' k' b hp hq
    obtain ⟨hb, hav⟩ := br_run' hav
    rw [← ret_run hav]
    refine h.q_bin _ t x y yt ho hp hq ?_ rfl
    have hb0 : ¬ b < 0 := of_decide_eq_false hb
    simp only [Sem.run_bind, guard_quiet .shl _ _ _ _ _ (by simp), Result.andThen_ok, binOp, Op.shift, if_neg hb0, Sem.run_pure]
  · rename_i k a' k' b hp hq
    obtain ⟨hb, hav⟩ := br_run' hav
    rw [← ret_run hav]
    refine h.q_bin _ t x y yt ho hp hq ?_ rfl
    have hb0 : ¬ b < 0 := of_decide_eq_false hb
    simp only [Sem.run_bind, guard_quiet .shr _ _ _ _ _ (by simp), Result.andThen_ok, binOp, Op.shift, if_neg hb0, Sem.run_pure]
  · rename_i p q hp hq
    obtain ⟨hb, hav⟩ := br_run hav
    rw [← ret_run hav]
    refine h.q_bin _ t x y yt ho hp hq ?_ rfl
    have hb0 : p.size + q.size ≤ 140737488355328 := of_decide_eq_true hb
    have hn : ¬ (((p.size + q.size : Nat) : Int) > IntKind.i64.max) := by
      have : IntKind.i64.max = 9223372036854775807 := by decide
      omega
    simp only [Sem.run_bind, guard_quiet .add _ _ _ _ _ (by simp), Result.andThen_ok, binOp, Op.stringOp, if_neg hn, Sem.run_pure]
  · rename_i p q hp hq
    split at hav
    · rename_i r hr
      obtain ⟨hg, hav⟩ := bif_run' hav
      rw [← ret_run hav]
      refine h.q_bin _ t x y yt ho hp hq ?_ rfl
      simp only [Sem.run_bind, guard_agg hg, Result.andThen_ok, binOp, Op.equal, eqV_run _ _ _ _ _ hr, Sem.run_pure]
    · cases hav
  · rename_i p q hp hq
    split at hav
    · rename_i r hr
      obtain ⟨hg, hav⟩ := bif_run' hav
      rw [← ret_run hav]
      refine h.q_bin _ t x y yt ho hp hq ?_ rfl
      simp only [Sem.run_bind, guard_agg hg, Result.andThen_ok, binOp, Op.equal, eqV_run _ _ _ _ _ hr, Sem.run_pure]
    · cases hav
  · exact h.q_plain (by rw [ho]; simp) hav
  · cases hav
theorem brIdx_run {i : Int} {f : Nat → AV} {av : AV} : ∀ (n j : Nat), (brIdx i f n j).run = some av → ∃ q, q < j + n ∧ i = (q : Int) ∧ av = f q
  | 0, j, h => by cases h
  | n + 1, j, h => by
    have h' : (bif decide (i = (j : Int)) then some (f j) else (brIdx i f n (j + 1)).run) = some av := h
    by_cases hi : i = (j : Int)
    · rw [decide_eq_true hi, cond_true] at h'
      exact ⟨j, by omega, hi, (Option.some.inj h').symm⟩
    · rw [decide_eq_false hi, cond_false] at h'
      obtain ⟨q, h1, h2, h3⟩ := brIdx_run n (j + 1) h'
      exact ⟨q, by omega, h2, h3⟩
theorem run_indexAt {P : Program} {w : World} {t e : TypeId} {n : Nat} {kd : IntKind} {q b o : Nat} {x ix : Value} (hx : x = .pointer (some ⟨b, o, none⟩)) (hix : ix = .int kd (q : Int)) (ht : P.underlying t = some (.array n e)) (h1 : 1 < n) (hq : q < n) (h0 : 0 < sizeP P e) :
    (Instr.indexAt t x ix).run P w = .ok (.pointer (some ⟨b, o + q * sizeP P e, none⟩)) w := by
  subst hx hix
  have hc : 0 ≤ (q : Int) ∧ (q : Int) < (n : Int) := ⟨by omega, by omega⟩
  simp only [Instr.indexAt, Instr.sureAddr, asIntOf, Sem.run_bind, Sem.run_pure, Result.andThen_ok, run_underlying ht, Sem.run_ite, if_pos hc, run_sizeOf (Nat.pos_iff_ne_zero.1 h0), addr_add, Int.toNat_natCast]
theorem Rel.q_idxpat (h : Rel E w0 X st a cx) (t e : TypeId) (x ix : Operand) (ho : o.op = .indexAddr t x ix) {d p n q : Nat} {kd : IntKind} (hx : Ev.opnd E (get st) x = .pat d p) (hi : plainV (Ev.opnd E (get st) ix) = some (.int kd (q : Int))) (ht : E.P.underlying t = some (.array n e)) (h1 : 1 < n) (hq : q < n) (h0 : 0 < sizeP E.P e) : Goal E o a cx (.pat d (p + q * sizeP E.P e)) := by
  obtain ⟨b, hb, hv⟩ := (hx ▸ h.opnd 0 x : AVRep cx 0 (.pat d p) (a.eval x))
  refine Goal.same (v := .pointer (some ⟨b, p + q * sizeP E.P e, none⟩)) ?_ (fun _ => ⟨b, hb, rfl⟩) rfl
  simp only [execOp, ho, Sem.run_bind, run_indexAt hv (h.plain hi) ht h1 hq h0, Result.andThen_ok, Sem.run_pure]
theorem allV_get {cs : List Cell} {l : List Value} (h : allV cs = some l) : cs = l.map .v := allV_spec h
theorem Rel.q_idxro (h : Rel E w0 X st a cx) (t e : TypeId) (x ix : Operand) (ho : o.op = .indexAddr t x ix) {cs : List Cell} {n : Nat} {i : Int} {kd : IntKind} (hx : Ev.opnd E (get st) x = .ro cs 0) (hi : plainV (Ev.opnd E (get st) ix) = some (.int kd i)) (ht : E.P.underlying t = some (.array n e)) (hn : cs.length = n) (h1 : 1 < n) (hs : sizeP E.P e = 1) (hb : (decide (0 ≤ i) && decide (i < (n : Int))) = true) {u : Value} (hu : cs[i.toNat]? = some (.v u)) : Goal E o a cx (.ro [.v u] 0) := by
  obtain ⟨b, off, vs, hv, hpos, hno, hF, hcell, hrep⟩ := (hx ▸ h.opnd 0 x : AVRep cx 0 (.ro cs 0) (a.eval x))
  simp only [Bool.and_eq_true, decide_eq_true_eq] at hb
  obtain ⟨q, rfl⟩ : ∃ q : Nat, i = (q : Int) := ⟨i.toNat, (Int.toNat_of_nonneg hb.1).symm⟩
  have hq : q < n := by omega
  rw [Int.toNat_natCast] at hu
  rw [Nat.add_zero] at hv
  have hvl : q < vs.length := by rw [← hrep.1]; omega
  have hvq := List.getElem?_eq_getElem hvl
  have huv : vs[q] = u := hrep.2.2 q _ _ hu hvq
  refine Goal.same (v := .pointer (some ⟨b, off + q * sizeP E.P e, none⟩)) ?_ (fun d => ⟨b, off + q * sizeP E.P e, [u], rfl, by simp, rfl, hF, fun j v hj => ?_, rfl, fun v hv => ?_, fun j c v hc hv => ?_⟩) rfl
  · simp only [execOp, ho, Sem.run_bind, run_indexAt hv (h.plain hi) ht h1 hq (by omega), Result.andThen_ok, Sem.run_pure]
  · cases j with
    | zero =>
      obtain rfl := Option.some.inj hj
      rw [hs, Nat.mul_one, Nat.add_zero]
      exact hcell q _ (by rw [hvq, huv])
    | succ j => simp at hj
  · obtain rfl := List.mem_singleton.1 hv
    exact hrep.2.1 _ (List.mem_iff_getElem.2 ⟨q, hvl, huv⟩)
  · cases j with
    | zero => obtain rfl := Option.some.inj hc; obtain rfl := Option.some.inj hv; rfl
    | succ j => simp at hc
theorem kinds_int {P : Program} {e : TypeId} {k : IntKind} (he : P.underlying e = some (.int k)) : kinds P e = [.int k] := by
  have h1 : cellTypes P 9 e = [e] := by simp only [cellTypes, he]
  have h2 : kindOf P e = some (.int k) := by simp only [kindOf, he]
  simp only [kinds, h1, kindsOf, h2]; rfl
theorem foldl_bytes : ∀ (ns : List Int) (s : ByteArray), ns.foldl (fun r n => r.push (UInt8.ofNat n.toNat)) s = ⟨s.data ++ (ns.map fun n => UInt8.ofNat n.toNat).toArray⟩
  | [], s => by cases s; simp
  | n :: ns, s => by
    rw [List.foldl_cons, foldl_bytes ns]
    cases s
    simp [ByteArray.push]
theorem Rel.q_conv (h : Rel E w0 X st a cx) (s t e : TypeId) (x : Operand) (ho : o.op = .convert s t x) {c : Cell} (hx : Ev.opnd E (get st) x = .p false [c]) (hs : E.P.underlying s = some (.slice e)) (ht : E.P.underlying t = some .string) (he : E.P.underlying e = some (.int .u8)) (hz : sizeP E.P e = 1) {own : Nat} {xs : List (List D)} (hc : res (get st) c = .sl own e xs) : Goal E o a cx (.p false [.v (.string (bytesD xs))]) := by
  have hr : CellsRep cx 0 0 [c] [a.eval x] := (hx ▸ h.opnd 0 x : AVRep cx 0 (.p false [c]) (a.eval x))
  have hno := opnd_cells_noOwn E (get st) h.glob x (cs := [c]) (by rw [hx]; rfl) c (by simp)
  have hp : packCell (.sl e) (res (get st) c) = some (.l xs) := by rw [hc]; simp [packCell]
  have hF : ∀ b, ¬ (fun _ : Nat => False) b := fun b => id
  have hrep := h.lent (F := fun _ => False) (.inl hF) hp hno (.inl hF) (hr.2.2 0 c (a.eval x) rfl rfl)
  refine Goal.same (v := .string (bytesD xs)) ?_ (fun d => ⟨rfl, fun v hv => by obtain rfl := List.mem_singleton.1 hv; rfl, fun j c v h1 h2 => by
    cases j with
    | zero => obtain rfl := Option.some.inj h1; obtain rfl := Option.some.inj h2; rfl
    | succ j => simp at h1⟩) rfl
  generalize hv : a.eval x = v at hrep
  have hk := kinds_int he
  cases hrep with
  | fn _ _ he hk' => rw [hk] at hk'; cases hk'
  | clo _ _ b he hk' hF' hcl => rw [hk] at hk'; cases hk'
  | nil _ _ a' c' h0 =>
    have : xs = [] := h0
    subst this
    simp only [execOp, ho, hv, Sem.run_bind, run_convert_bytes_string cx.w s t e a' 0 c' hs he ht]
    cases a' with
    | none => rfl
    | some a' =>
      rw [run_bytesToString cx.w a' 0 c' [] (by rfl)]; rfl
  | sl _ _ b off cp n vs hn hn0 hm hF hcells hrr =>
    have hn' : n = xs.length := hn
    have hc1 : (loadCells ⟨b, off, none⟩ n).run E.P cx.w = .ok ((xs.map fun r => gi r 0).map (Value.int .u8)).toArray cx.w := by
      have hl : ((xs.map fun r => gi r 0).map (Value.int .u8)).length = n := by simp [hn']
      have := run_loadCells_list (P := E.P) (w := cx.w) ⟨b, off, none⟩ ((xs.map fun r => gi r 0).map (Value.int .u8)) (fun j u hj => ?_)
      · rw [hl] at this; exact this
      · rw [addr_add]
        have hj' : j < n := by rw [← hl]; exact (List.getElem?_eq_some_iff.1 hj).1
        have h1 := hcells j 0 hj' (by rw [hk]; simp)
        rw [hk] at h1
        simp only [List.length_singleton, Nat.mul_one, Nat.add_zero] at h1
        rw [h1]
        have h2 := hrr j 0 (.int .u8) hj' (by rw [hk]; rfl)
        have hjx : j < xs.length := by omega
        rw [List.getElem?_map, List.getElem?_map, List.getElem?_eq_getElem hjx] at hj
        have hj2 : Value.int .u8 (gi xs[j] 0) = u := Option.some.inj hj
        rw [← hj2]
        generalize vs j 0 = q at h2
        cases h2
        have e1 : (D.l xs).rows.getD j [] = xs[j] := by
          show xs.getD j [] = _
          rw [List.getD_eq_getElem?_getD, List.getElem?_eq_getElem hjx]; rfl
        rw [e1]; rfl
    simp only [execOp, ho, hv, Sem.run_bind, run_convert_bytes_string cx.w s t e _ n cp hs he ht, run_bytesToString cx.w _ n cp _ hc1, Result.andThen_ok, Sem.run_pure, foldl_bytes]
    congr 2
    simp [bytesD, List.map_map, Function.comp_def]
theorem evQ_sound (h : Rel E w0 X st a cx) (hE : EnvOk E) (hm : ∀ c, o.op = .call c → ∀ f n sp, c.callee = .value f → Ev.opnd E (get st) f = .fn n → E.spec n = some sp → isMut sp = false) (hav : (evQ E (get st) o).run = some av) : Goal E o a cx av := by
  unfold evQ at hav
  split at hav
  · rename_i x ho; exact h.q_move x (.inl ho) hav
  · rename_i x ho; exact h.q_move x (.inr ho) hav
  · rename_i c x y ho
    split at hav
    · rename_i t hc; exact h.q_pick c x y ho hc hav
    · cases hav
  · rename_i e ho
    split at hav
    · rename_i cs hz; rw [← ret_run hav]; exact h.q_alloc e ho hz
    · cases hav
  · rename_i e x ho
    split at hav
    · rename_i cs hz; rw [← ret_run hav]; exact h.q_box e x ho hz
    · cases hav
  · rename_i t parts ho
    obtain ⟨hok, hav⟩ := bif_run' hav
    split at hav
    · rename_i z hz
      split at hav
      · rename_i cs hf; rw [← ret_run hav]; exact h.q_build t parts ho (by simpa using hok) hz hf
      · cases hav
    · cases hav
  · rename_i t x ho; exact h.q_load t x ho hav
  · rename_i x ho
    split at hav
    · rename_i d n e; exact h.q_nilCheck x ho (.inl ⟨d, n, e⟩) (e.trans (ret_run hav))
    · rename_i d j i n e; exact h.q_nilCheck x ho (.inr (.inl ⟨d, j, i, n, e⟩)) (e.trans (ret_run hav))
    · rename_i cs n e; exact h.q_nilCheck x ho (.inr (.inr ⟨cs, n, e⟩)) (e.trans (ret_run hav))
    · cases hav
  · rename_i s x f ho
    split at hav
    · rename_i fd d n hf e; exact h.q_fieldAddr s x f ho hf (.inl ⟨d, n, e, (ret_run hav).symm⟩)
    · rename_i fd d j i n hf e; exact h.q_fieldAddr s x f ho hf (.inr (.inl ⟨d, j, i, n, e, (ret_run hav).symm⟩))
    · rename_i fd cs n hf e; exact h.q_fieldAddr s x f ho hf (.inr (.inr ⟨cs, n, e, (ret_run hav).symm⟩))
    · cases hav
  · rename_i s x f ho
    split at hav
    · rename_i fd cs hf e; exact h.q_field s x f ho hf e hav
    · cases hav
  · rename_i t x ix ho
    split at hav
    · rename_i d p kd i n e hx hi ht
      obtain ⟨hk, hav⟩ := bif_run hav
      simp only [Bool.and_eq_true] at hk
      obtain ⟨q, hq, rfl, rfl⟩ := brIdx_run _ _ hav
      exact h.q_idxpat t e x ix ho hx hi ht (Nat.le_of_ble_eq_true hk.1) (by omega) (Nat.le_of_ble_eq_true hk.2.2)
    · rename_i cs kd i n e hx hi ht
      obtain ⟨hk, hav⟩ := bif_run hav
      simp only [Bool.and_eq_true] at hk
      have hn := Nat.eq_of_beq_eq_true hk.1
      have h1 : 1 < n := Nat.le_of_ble_eq_true hk.2.1
      have hs := Nat.eq_of_beq_eq_true hk.2.2
      split at hav
      · split at hav
        · rename_i ns hns
          obtain ⟨hb, hav⟩ := br_run hav
          rw [← ret_run hav]
          obtain ⟨l, hl, hns⟩ := Option.bind_eq_some_iff.1 hns
          have hl' := allV_spec hl
          have hll := strsOf_spec hns
          refine h.q_idxro t e x ix ho hx hi ht hn h1 hs hb ?_
          simp only [Bool.and_eq_true, decide_eq_true_eq] at hb
          have hlen : ns.length = n := by rw [← hn, hl', hll]; simp
          have hlt : i.toNat < ns.length := by omega
          rw [hl', hll, List.getElem?_map, List.getElem?_map, List.getElem?_eq_getElem hlt, List.getD_eq_getElem?_getD, List.getElem?_eq_getElem hlt]; rfl
        · cases hav
      · split at hav
        · rename_i ns hns
          obtain ⟨hb, hav⟩ := br_run hav
          rw [← ret_run hav]
          obtain ⟨l, hl, hns⟩ := Option.bind_eq_some_iff.1 hns
          have hl' := allV_spec hl
          have hll := intsOf_spec hns
          refine h.q_idxro t e x ix ho hx hi ht hn h1 hs hb ?_
          simp only [Bool.and_eq_true, decide_eq_true_eq] at hb
          have hlen : ns.length = n := by rw [← hn, hl', hll]; simp
          have hlt : i.toNat < ns.length := by omega
          rw [hl', hll, List.getElem?_map, List.getElem?_map, List.getElem?_eq_getElem hlt, List.getD_eq_getElem?_getD, List.getElem?_eq_getElem hlt]; rfl
        · cases hav
      · cases hav
    · rename_i c kd i e hx hi ht
      obtain ⟨hk, hav⟩ := bif_run' hav
      simp only [Bool.not_eq_false', Bool.and_eq_true] at hk
      have hsz : (kinds E.P e).length = sizeP E.P e := Nat.eq_of_beq_eq_true hk.1
      have h0 : 0 < sizeP E.P e := Nat.le_of_ble_eq_true hk.2
      split at hav
      · rename_i d j w e' xs hv0 hr
        obtain ⟨hee, hav2⟩ := bif_run hav
        obtain rfl := Nat.eq_of_beq_eq_true hee
        obtain ⟨hb, hav⟩ := br_run hav2
        have hca : cellAt (get st d) j = .sl (w + 1) e xs := by
          simp only [res] at hr
          split at hr
          · rename_i o1 e1 xs1 hc1; rw [hc1]; exact hr
          · cases hr
        exact h.q_index t e x ix ho hx hi ht hsz h0 xs hb (.inl ⟨d, j, w, rfl, hca, (ret_run hav).symm⟩)
      · rename_i e' xs hv0
        obtain ⟨hee, hav2⟩ := bif_run hav
        obtain rfl := Nat.eq_of_beq_eq_true hee
        obtain ⟨hb, hav⟩ := br_run hav2
        exact h.q_index t e x ix ho hx hi ht hsz h0 xs hb (.inr ⟨rfl, (ret_run hav).symm⟩)
      · cases hav
    · cases hav
  · rename_i t x ix ho
    split at hav
    · rename_i cs kd i n e hx hi ht
      obtain ⟨hk, hav⟩ := bif_run hav
      simp only [Bool.and_eq_true, Bool.not_eq_true'] at hk
      obtain ⟨k1, k2, k3, k4⟩ := hk
      have hn := Nat.eq_of_beq_eq_true k1
      split at hav
      · rename_i k q hq
        split at hav
        · rename_i ns hns
          obtain ⟨hb, hav⟩ := br_run hav
          rw [← ret_run hav]
          have hl := intsOf_spec hns
          have hlen : ns.length = n := by have := congrArg List.length hl; simp at this; omega
          have hb' := hb
          simp only [Bool.and_eq_true, decide_eq_true_eq] at hb'
          refine h.q_idxarr t e x ix ho hx hi ht hn (Nat.eq_of_beq_eq_true k2) k3 k4 hb ?_ rfl
          have hlt : i.toNat < ns.length := by omega
          rw [hl, List.getElem?_map, List.getElem?_eq_getElem hlt, List.getD_eq_getElem?_getD, List.getElem?_eq_getElem hlt]; rfl
        · cases hav
      · rename_i q hq
        split at hav
        · rename_i ns hns
          obtain ⟨hb, hav⟩ := br_run hav
          rw [← ret_run hav]
          have hl := strsOf_spec hns
          have hlen : ns.length = n := by have := congrArg List.length hl; simp at this; omega
          have hb' := hb
          simp only [Bool.and_eq_true, decide_eq_true_eq] at hb'
          refine h.q_idxarr t e x ix ho hx hi ht hn (Nat.eq_of_beq_eq_true k2) k3 k4 hb ?_ rfl
          have hlt : i.toNat < ns.length := by omega
          rw [hl, List.getElem?_map, List.getElem?_eq_getElem hlt, List.getD_eq_getElem?_getD, List.getElem?_eq_getElem hlt]; rfl
        · cases hav
      · cases hav
    · rename_i s kd i hx hi ht
      obtain ⟨hb, hav⟩ := br_run hav
      rw [← ret_run hav]
      exact h.q_idxstr t x ix ho hx hi ht hb
    · cases hav
  · rename_i t x lo hi ho
    split at hav
    · rename_i s hx ht
      dsimp only at hav
      split at hav
      · rename_i l u hl hu
        obtain ⟨hb, hav⟩ := br_run hav
        rw [← ret_run hav]
        refine h.q_slicestr t x lo hi ho hx ht ?_ ?_ hb
        · split at hl
          · exact .inl ⟨rfl, (Option.some.inj hl).symm⟩
          · rename_i y
            split at hl
            · rename_i k n hn; obtain rfl := Option.some.inj hl; exact .inr ⟨y, k, rfl, hn⟩
            · cases hl
        · split at hu
          · exact .inl ⟨rfl, (Option.some.inj hu).symm⟩
          · rename_i y
            split at hu
            · rename_i k n hn; obtain rfl := Option.some.inj hu; exact .inr ⟨y, k, rfl, hn⟩
            · cases hu
      · cases hav
    · exact h.q_plain (fun cs b e => by rw [ho] at e; cases e) hav
    · cases hav
  · rename_i x i ho
    split at hav
    · rename_i ps hx
      split at hav
      · rename_i ag cs hp; rw [← ret_run hav]; exact h.q_extract x i ho hx hp
      · cases hav
    · cases hav
  · rename_i t len parts ho
    split at hav
    · rename_i e ht
      dsimp only at hav
      split at hav
      · rename_i z hz
        obtain ⟨hb, hav⟩ := bif_run hav
        split at hav
        · rename_i cs hf
          split at hav
          · rename_i rs hp; rw [← ret_run hav]; exact h.q_buildSlice t e len parts ho ht hz hb hf hp
          · cases hav
        · cases hav
      · cases hav
    · cases hav
  · rename_i t x y ho
    split at hav
    · rename_i e l c ht hx hy
      split at hav
      · rename_i i z hi hz
        dsimp only at hav
        obtain ⟨hb, hav⟩ := bif_run hav
        split at hav
        · rename_i row hp
          obtain ⟨hc, hav⟩ := br_run hav
          rw [← ret_run hav]
          exact h.q_makeSlice t e x y ho ht hx hy hi hz hb hp hc
        · cases hav
      · cases hav
    · cases hav
  · rename_i op t x y yt ho
    exact h.q_binop op t x y yt ho hav
  · rename_i args ts ho
    split at hav
    · rename_i x t ha hts
      split at hav
      · rename_i c hx
        split at hav
        · rename_i q e xs e' hc ht
          obtain ⟨hk0, hav⟩ := bif_run hav
          rw [← ret_run hav]
          exact h.q_len x t args ts ho ha hts hx hc ht (Nat.le_of_ble_eq_true hk0)
        · exact h.q_plain (by rw [ho]; simp) hav
        · cases hav
      · cases hav
    · cases hav
  · rename_i f args ts ho
    split at hav
    · rename_i n hf
      split at hav
      · rename_i sp hs
        obtain ⟨hl, hav⟩ := bif_run' hav
        split at hav
        · rename_i ds hp
          obtain ⟨t, hG, hav⟩ := opt_run hav
          rw [← ret_run hav]
          exact h.q_call hE f args ts ho hf hs (hm _ ho f n sp rfl hf hs) hl hp hG
        · cases hav
      · cases hav
    · rename_i e xs hf
      obtain ⟨hk, hav⟩ := bif_run' hav
      rw [Bool.not_eq_false'] at hk
      have hk := Nat.eq_of_beq_eq_true hk
      cases hfn : isFnT e with
      | true =>
        rw [hfn, cond_true] at hav
        split at hav
        · rename_i sp hs
          obtain ⟨hl, hav⟩ := bif_run' hav
          split at hav
          · rename_i ds hp
            obtain ⟨t, hG, hav⟩ := opt_run hav
            rw [← ret_run hav]
            exact h.q_callN hE f args ts ho ((h.fnCell hf hk).1 hfn) hs (packArgs_noMut hp) hl hp hG
          · cases hav
        · cases hav
      | false =>
        rw [hfn, cond_false] at hav
        obtain ⟨hcl, hav⟩ := bif_run hav
        split at hav
        · rename_i sp hs
          obtain ⟨hl, hav⟩ := bif_run' hav
          rw [Bool.or_eq_false_iff, Bool.or_eq_false_iff, Bool.not_eq_false', Bool.not_eq_false'] at hl
          split at hav
          · rename_i ds hp
            obtain ⟨t, hG, hav⟩ := opt_run hav
            rw [← ret_run hav]
            exact h.q_callC hE f args ts ho hf hk hfn hcl hs hl.1.1 (Nat.eq_of_beq_eq_true hl.1.2) hl.2 hp hG
          · cases hav
        · cases hav
    · cases hav
  · rename_i ho; exact h.q_plain (by rw [ho]; simp) hav
  · rename_i ho; exact h.q_plain (by rw [ho]; simp) hav
  · rename_i ho; exact h.q_plain (by rw [ho]; simp) hav
  · rename_i ho; exact h.q_plain (by rw [ho]; simp) hav
  · rename_i s t x ho
    split at hav
    · rename_i c e hx hs ht
      split at hav
      · rename_i own e' xs hc he
        obtain ⟨hb, hav⟩ := bif_run hav
        rw [← ret_run hav]
        simp only [Bool.and_eq_true] at hb
        obtain rfl := Nat.eq_of_beq_eq_true hb.1
        exact h.q_conv s t e x ho hx hs ht he (Nat.eq_of_beq_eq_true hb.2) hc
      · cases hav
    · exact h.q_plain (by rw [ho]; simp) hav
  · cases hav
end
end Go.Proofs.YtpggnjmmpkdkjaaGreat.Ev
