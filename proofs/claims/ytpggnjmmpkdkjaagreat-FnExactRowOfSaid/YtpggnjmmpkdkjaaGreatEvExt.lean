/- Functions without a body: bits.Add64, bits.Sub64, bytealg.IndexByteString; functions that answer a string. No condition. -/
import Derived.Test.YtpggnjmmpkdkjaaGreatEvS25
namespace Go.Proofs.YtpggnjmmpkdkjaaGreat.Ev
open Go Go.RowKit
set_option linter.unusedVariables false
def u64ok (x : Int) : Bool := decide (0 ≤ x) && decide (x ≤ 18446744073709551615)
def add64 (x y c : Int) : Option (List D) := bif (u64ok x && u64ok y) && (decide (0 ≤ c) && decide (c ≤ 1)) then some [.i ((x + y + c) % 18446744073709551616), .i ((x + y + c) / 18446744073709551616)] else none
def sub64 (x y c : Int) : Option (List D) := bif (u64ok x && u64ok y) && (decide (0 ≤ c) && decide (c ≤ 1)) then some [.i ((x - y - c) % 18446744073709551616), .i (if x < y + c then 1 else 0)] else none
def add64.sp (k : Nat) : Spec := { pt := [(0, [.int .u64]), (0, [.int .u64]), (0, [.int .u64])], rt := [(false, [(.int .u64, 0)]), (false, [(.int .u64, 0)])], G := fun ds => add64 (gi ds 0) (gi ds 1) (gi ds 2) }
def sub64.sp (k : Nat) : Spec := { pt := [(0, [.int .u64]), (0, [.int .u64]), (0, [.int .u64])], rt := [(false, [(.int .u64, 0)]), (false, [(.int .u64, 0)])], G := fun ds => sub64 (gi ds 0) (gi ds 1) (gi ds 2) }
/-- The first place of a byte in a string; -1 if there is none. -/
def idxByte (s : ByteArray) (c : Int) : Option (List D) := some [.i (match (List.range s.size).find? fun i => s[i]! == c.toNat.toUInt8 with
  | some i => (i : Int)
  | none => -1)]
def idxByte.sp (k : Nat) : Spec := { pt := [(0, [.str]), (0, [.int .u8])], rt := [(false, [(.int .i64, 0)])], G := fun ds => idxByte (gs ds 0) (gi ds 1) }
def sv : K → D → Value
  | .int k, d => .int k d.int
  | .bool, d => .bool d.bool
  | .str, d => .string d.str
  | _, _ => undef
def scal : K → Bool
  | .sl _ => false
  | _ => true
section
variable {P : Program} {gl : Nat → Option (List Value)} {f : Nat} {fn : Func}
theorem three_args {w : World} {F : Nat → Prop} {ds : List D} {args : List Value} (h : ArgsRep P w F [(0, [.int .u64]), (0, [.int .u64]), (0, [.int .u64])] ds args) : args = [.int .u64 (gi ds 0), .int .u64 (gi ds 1), .int .u64 (gi ds 2)] := by
  match args, h with
  | [a, b, c], ⟨ha, hb, hc, _⟩ =>
    have one : ∀ {ds : List D} {v : Value}, RowRep P w F [.int .u64] ds [v] → v = .int .u64 (gi ds 0) := by
      intro ds v hr
      have := hr.2 0 _ v rfl rfl
      cases this; rfl
    have h1 := one ha
    have h2 := one hb
    have h3 := one hc
    rw [h1, h2, h3]
    simp [gi, List.getD_eq_getElem?_getD, List.getElem?_drop]
theorem one_arg {w : World} {F : Nat → Prop} {k : K} (hk : scal k = true) {ds : List D} {v : Value} (h : ArgRep P w F (0, [k]) ds v) : v = sv k (ds.getD 0 .j) := by
  have := h.2 0 k v rfl rfl
  cases this with
  | sl => cases hk
  | nil => cases hk
  | fn => cases hk
  | clo => cases hk
  | _ => rfl
theorem two_args {w : World} {F : Nat → Prop} {k1 k2 : K} (h1 : scal k1 = true) (h2 : scal k2 = true) {ds : List D} {args : List Value} (h : ArgsRep P w F [(0, [k1]), (0, [k2])] ds args) : args = [sv k1 (ds.getD 0 .j), sv k2 (ds.getD 1 .j)] := by
  match args, h with
  | [a, b], ⟨ha, hb, _⟩ =>
    rw [one_arg h1 ha, one_arg h2 hb]
    simp [List.getD_eq_getElem?_getD]
theorem outs_none {w : World} {N : Nat → Prop} {t : List D} : ∀ (pt : List (Nat × List K)) (vs : List Value) (i : Nat), (pt.any fun p => Nat.beq p.1 3) = false → OutsRep P w N t pt vs i
  | [], _, _, _ => trivial
  | p :: pt, [], _, _ => trivial
  | p :: pt, v :: vs, i, h => by
    rw [List.any_cons, Bool.or_eq_false_iff] at h
    simp only [OutsRep]
    rw [if_neg (fun e => by rw [e] at h; cases h.1)]
    exact outs_none pt vs i h.2
theorem one_res {w w' : World} {N : Nat → Prop} {sp : Spec} {args : List Value} {k : K} (hk : scal k = true) (hrt : sp.rt = [(false, [(k, 0)])]) (hm : isMut sp = false) (hb : Below w.heap.size w w') (d : D) : ResOk P w w' N sp args [d] (sv k d) := by
  refine ⟨⟨hb.os, hb.tape, hb.output, hb.size, fun b h _ => hb.block b h⟩, ⟨fun _ => none, fun _ => none, (fun b j h => nomatch h), ?_⟩, outs_none _ _ _ hm⟩
  rw [hrt]
  have h1 : (sv k d).oneCell' = true := by cases k <;> first | rfl | cases hk
  have h2 : cellR (k, 0) d = .v (sv k d) := by cases k <;> first | rfl | cases hk
  refine ⟨rfl, fun v hv => by obtain rfl := List.mem_singleton.1 hv; exact h1, fun j c v e1 e2 => ?_⟩
  cases j with
  | zero =>
    have e3 : cellR (k, 0) d = c := Option.some.inj e1
    obtain rfl := Option.some.inj e2
    rw [← e3, h2]; rfl
  | succ j => simp [cellsR] at e1
/-- A function of the library that answers a string. -/
theorem str_ok {sp : Spec} (hfl : flagsOk sp.rt = true) (hm : isMut sp = false) (hrt : sp.rt = [(false, [(.str, 0)])]) (hf : P.funcs[f]? = some fn) (hb : fn.body.isSome = true) (hn : (fn.name == "runtime.NumGoroutine") = false)
    (h : ∀ (w : World) (N : Nat → Prop) (args : List Value) (ds t : List D), GlobsAt gl w N → ArgsRep P w N sp.pt ds args → sp.G ds = some t → ∃ r, t = [.s r] ∧ Calls P f args.toArray w fun e w' => e = .returned (.string r) ∧ Below w.heap.size w w') : SpecOk P gl f sp := by
  refine ⟨hfl, fun w N args ds t _ hg ha ht => .inl ⟨⟨fn, hf, hb, hn⟩, ?_⟩⟩
  obtain ⟨r, rfl, hc⟩ := h w _ args ds t hg (by simpa only [or_comm] using ha) ht
  exact hc.mono fun e w' ⟨he, hb⟩ => ⟨_, he, one_res (k := .str) rfl hrt hm hb (.s r)⟩
theorem pair_res {w : World} {N : Nat → Prop} {sp : Spec} {args : List Value} (hrt : sp.rt = [(false, [(.int .u64, 0)]), (false, [(.int .u64, 0)])]) (hm : isMut sp = false) (x y : Int) : ResOk P w w N sp args [.i x, .i y] (.tuple #[.int .u64 x, .int .u64 y]) := by
  refine ⟨⟨rfl, rfl, rfl, Nat.le_refl _, fun _ _ _ => rfl⟩, ⟨fun _ => none, fun _ => none, (fun b j h => nomatch h), ?_⟩, ?_⟩
  · rw [hrt]
    refine ⟨[.int .u64 x, .int .u64 y], rfl, ⟨rfl, fun v hv => ?_, fun j c v h1 h2 => ?_⟩, ⟨rfl, fun v hv => ?_, fun j c v h1 h2 => ?_⟩, trivial⟩
    · obtain rfl := List.mem_singleton.1 hv; rfl
    · cases j with
      | zero => obtain rfl := Option.some.inj h1; obtain rfl := Option.some.inj h2; rfl
      | succ j => simp [cellsR] at h1
    · obtain rfl := List.mem_singleton.1 hv; rfl
    · cases j with
      | zero => obtain rfl := Option.some.inj h1; obtain rfl := Option.some.inj h2; rfl
      | succ j => simp [cellsR] at h1
  · have : ∀ (pt : List (Nat × List K)) (vs : List Value) (i : Nat), (pt.any fun p => Nat.beq p.1 3) = false → OutsRep P w N [.i x, .i y] pt vs i := by
      intro pt
      induction pt with
      | nil => intro vs i _; trivial
      | cons p pt ih =>
        intro vs i h
        rw [List.any_cons, Bool.or_eq_false_iff] at h
        cases vs with
        | nil => trivial
        | cons v vs =>
          simp only [OutsRep]
          rw [if_neg (fun e => by rw [e] at h; cases h.1)]
          exact ih vs i h.2
    exact this _ _ _ hm
theorem call_ext (hf : P.funcs[f]? = some fn) (hb : fn.body = none) (hn : (fn.name == "runtime.NumGoroutine") = false) {e : Array Value → Sem Value} (h1 : Extern.findNext fn = none) (h2 : Extern.find fn = some e) {args : Array Value} {w : World} {v : Value} (he : (e args).run P w = .ok v w) : (callFunc f args).run P w = .ok (.value v) w := by
  have hn' : ¬ ((fn.name == "runtime.NumGoroutine") = true) := by rw [hn]; simp
  simp only [callFunc, Sem.run_bind, Sem.run_pure, run_program, Result.andThen_ok, hf, if_neg hn', hb, Option.isNone_none, if_true, h1, h2, run_mark, he]
theorem u64_of {x : Int} (h : u64ok x = true) : ∃ n : Nat, x = n ∧ n ≤ 18446744073709551615 := by
  unfold u64ok at h
  rw [Bool.and_eq_true, decide_eq_true_iff, decide_eq_true_iff] at h
  exact ⟨x.toNat, (Int.toNat_of_nonneg h.1).symm, by omega⟩
theorem run_add64 {w : World} (x y c : Nat) (hc : c ≤ 1) : ((Extern.MathBitsCarry.rows.getD 0 ("", fun _ => pure undef)).2 #[.int .u64 x, .int .u64 y, .int .u64 c]).run P w = .ok (.tuple #[.int .u64 (((x : Int) + y + c) % 18446744073709551616), .int .u64 (((x : Int) + y + c) / 18446744073709551616)]) w := by
  have e1 : Int.ofNat ((x + y + c) % Extern.MathBitsCarry.m64) = ((x : Int) + y + c) % 18446744073709551616 := by
    show (((x + y + c) % 2 ^ 64 : Nat) : Int) = _
    omega
  have e2 : Int.ofNat ((x + y + c) / Extern.MathBitsCarry.m64) = ((x : Int) + y + c) / 18446744073709551616 := by
    show (((x + y + c) / 2 ^ 64 : Nat) : Int) = _
    omega
  rw [← e1, ← e2]
  obtain rfl | rfl : c = 0 ∨ c = 1 := by omega
  · rfl
  · rfl
theorem run_sub64 {w : World} (x y c : Nat) (hx : x ≤ 18446744073709551615) (hy : y ≤ 18446744073709551615) (hc : c ≤ 1) : ((Extern.MathBitsCarry.rows.getD 1 ("", fun _ => pure undef)).2 #[.int .u64 x, .int .u64 y, .int .u64 c]).run P w = .ok (.tuple #[.int .u64 (((x : Int) - y - c) % 18446744073709551616), .int .u64 (if (x : Int) < y + c then 1 else 0)]) w := by
  have e1 : Int.ofNat ((x + Extern.MathBitsCarry.m64 - y - c) % Extern.MathBitsCarry.m64) = ((x : Int) - y - c) % 18446744073709551616 := by
    show (((x + 2 ^ 64 - y - c) % 2 ^ 64 : Nat) : Int) = _
    omega
  have e2 : Int.ofNat (if x < y + c then 1 else 0) = if (x : Int) < y + c then (1 : Int) else 0 := by
    by_cases h : x < y + c
    · rw [if_pos h, if_pos (by omega)]; rfl
    · rw [if_neg h, if_neg (by omega)]; rfl
  rw [← e1, ← e2]
  obtain rfl | rfl : c = 0 ∨ c = 1 := by omega
  · rfl
  · rfl
theorem add64_ok (k : Nat) (hf : P.funcs[f]? = some fn) (hb : fn.body = none) (hn : (fn.name == "runtime.NumGoroutine") = false) (h1 : Extern.findNext fn = none) (h2 : Extern.find fn = some (Extern.MathBitsCarry.rows.getD 0 ("", fun _ => pure undef)).2) : SpecOk P gl f (add64.sp k) := by
  refine ⟨rfl, fun w N args ds t hN _ ha ht => .inr ⟨rfl, ?_⟩⟩
  obtain rfl := three_args ha
  have ht' : add64 (gi ds 0) (gi ds 1) (gi ds 2) = some t := ht
  unfold add64 at ht'
  cases hc : ((u64ok (gi ds 0) && u64ok (gi ds 1)) && (decide (0 ≤ gi ds 2) && decide (gi ds 2 ≤ 1))) with
  | false => rw [hc] at ht'; cases ht'
  | true =>
    rw [hc, cond_true] at ht'
    obtain rfl := Option.some.inj ht'
    simp only [Bool.and_eq_true, decide_eq_true_eq] at hc
    obtain ⟨⟨hx, hy⟩, hz0, hz1⟩ := hc
    obtain ⟨x, ex, _⟩ := u64_of hx
    obtain ⟨y, ey, _⟩ := u64_of hy
    obtain ⟨c, ec⟩ : ∃ c : Nat, gi ds 2 = c := ⟨(gi ds 2).toNat, (Int.toNat_of_nonneg hz0).symm⟩
    rw [ex, ey, ec]
    exact ⟨_, call_ext hf hb hn h1 h2 (run_add64 x y c (by omega)), pair_res rfl rfl _ _⟩
theorem sub64_ok (k : Nat) (hf : P.funcs[f]? = some fn) (hb : fn.body = none) (hn : (fn.name == "runtime.NumGoroutine") = false) (h1 : Extern.findNext fn = none) (h2 : Extern.find fn = some (Extern.MathBitsCarry.rows.getD 1 ("", fun _ => pure undef)).2) : SpecOk P gl f (sub64.sp k) := by
  refine ⟨rfl, fun w N args ds t hN _ ha ht => .inr ⟨rfl, ?_⟩⟩
  obtain rfl := three_args ha
  have ht' : sub64 (gi ds 0) (gi ds 1) (gi ds 2) = some t := ht
  unfold sub64 at ht'
  cases hc : ((u64ok (gi ds 0) && u64ok (gi ds 1)) && (decide (0 ≤ gi ds 2) && decide (gi ds 2 ≤ 1))) with
  | false => rw [hc] at ht'; cases ht'
  | true =>
    rw [hc, cond_true] at ht'
    obtain rfl := Option.some.inj ht'
    simp only [Bool.and_eq_true, decide_eq_true_eq] at hc
    obtain ⟨⟨hx, hy⟩, hz0, hz1⟩ := hc
    obtain ⟨x, ex, hx'⟩ := u64_of hx
    obtain ⟨y, ey, hy'⟩ := u64_of hy
    obtain ⟨c, ec⟩ : ∃ c : Nat, gi ds 2 = c := ⟨(gi ds 2).toNat, (Int.toNat_of_nonneg hz0).symm⟩
    rw [ex, ey, ec]
    exact ⟨_, call_ext hf hb hn h1 h2 (run_sub64 x y c hx' hy' (by omega)), pair_res rfl rfl _ _⟩
theorem run_idxByte {w : World} (s : ByteArray) (c : Int) : ((Extern.BytealgIndexByte.rows.getD 1 ("", fun _ => pure undef)).2 #[.string s, .int .u8 c]).run P w = .ok (.int .i64 (match (List.range s.size).find? fun i => s[i]! == c.toNat.toUInt8 with
  | some i => (i : Int)
  | none => -1)) w := by
  have e : (Extern.BytealgIndexByte.rows.getD 1 ("", fun _ => pure undef)).2 #[.string s, .int .u8 c] = (match (List.range s.size).find? fun i => s[i]! == c.toNat.toUInt8 with
    | some i => pure (goInt i)
    | none => pure (goInt (-1))) := rfl
  rw [e]
  cases (List.range s.size).find? fun i => s[i]! == c.toNat.toUInt8 <;> rfl
theorem idxByte_ok (k : Nat) (hf : P.funcs[f]? = some fn) (hb : fn.body = none) (hn : (fn.name == "runtime.NumGoroutine") = false) (h1 : Extern.findNext fn = none) (h2 : Extern.find fn = some (Extern.BytealgIndexByte.rows.getD 1 ("", fun _ => pure undef)).2) : SpecOk P gl f (idxByte.sp k) := by
  refine ⟨rfl, fun w N args ds t hN _ ha ht => .inr ⟨rfl, ?_⟩⟩
  obtain rfl := two_args rfl rfl ha
  have ht' : idxByte (gs ds 0) (gi ds 1) = some t := ht
  obtain rfl := Option.some.inj ht'
  exact ⟨_, call_ext hf hb hn h1 h2 (run_idxByte _ _), one_res (k := .int .i64) rfl rfl rfl (Below.refl _ _) (.i _)⟩
end
end Go.Proofs.YtpggnjmmpkdkjaaGreat.Ev
