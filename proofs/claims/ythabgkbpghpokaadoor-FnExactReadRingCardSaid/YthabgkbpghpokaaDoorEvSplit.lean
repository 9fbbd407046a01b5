/- strings.Split, out of the library's contract; the length bound of the library's byte search is a number that the world holds. No condition. -/
import Derived.Test.YthabgkbpghpokaaDoorEvLib
import Derived.Shelf.Strings.SplitShaped
import Derived.Shelf.Strings.Cut
namespace Go.Proofs.YthabgkbpghpokaaDoor.Ev
open Go Go.RowKit
set_option linter.unusedVariables false
class Mx where
  mx : Int
def splitL (a b : ByteArray) : List ByteArray := Lib.splitB b 0 (Lib.countB a b) a
def splitA (a b : ByteArray) : Option (List D) := bif decide (a.size < 4294967281) && decide (1 ≤ b.size) then some [.l ((splitL a b).map fun s => [.s s])] else none
def splitA.sp (e : TypeId) : Spec := { pt := [(0, [.str]), (0, [.str])], rt := [(false, [(.sl e, 0)])], G := fun ds => splitA (gs ds 0) (gs ds 1) }
theorem splitL_length {a b : ByteArray} (h : 1 ≤ b.size) : (splitL a b).length = Lib.countB a b + 1 := Lib.splitB_all b h 0 _ a rfl
def cutA (a b : ByteArray) : Option (List D) := bif decide (a.size < 4294967281) then some [.s ⟨(Lib.cut a.data.toList b.data.toList).1.toArray⟩, .s ⟨(Lib.cut a.data.toList b.data.toList).2.1.toArray⟩, .b (Lib.cut a.data.toList b.data.toList).2.2] else none
def cutA.sp (k : Nat) : Spec := { pt := [(0, [.str]), (0, [.str])], rt := [(false, [(.str, 0)]), (false, [(.str, 0)]), (false, [(.bool, 0)])], G := fun ds => cutA (gs ds 0) (gs ds 1) }
section
variable {P : Program} {gl : Nat → Option (List Value)} {f : Nat} {fn : Func}
theorem splitA_ok {e : TypeId} {t9 : TypeId} {g : Nat} {mx : Int} (hf : P.funcs[f]? = some fn) (hb : fn.body.isSome = true) (hn : (fn.name == "runtime.NumGoroutine") = false) (hk : kinds P e = [.str]) (hg : gl g = some [.int .i64 mx])
    (hc : ∀ (a b : ByteArray) (m : Int) (w : World), a.size < 4294967281 → w.cell? ⟨g, 0, none⟩ = some (.int .i64 m) → 1 ≤ b.size → Calls P f #[.string a, .string b] w fun e w' => e = .returned (.slice (some ⟨w.heap.size, 0, none⟩) (Lib.countB a b + 1) (Lib.countB a b + 1)) ∧ w' = w.alloc (.cells ((Lib.splitB b 0 (Lib.countB a b) a).map Value.string).toArray t9)) : SpecOk P gl f (splitA.sp e) := by
  refine ⟨rfl, fun w N args ds t hN hgl ha ht => .inl ⟨⟨fn, hf, hb, hn⟩, ?_⟩⟩
  obtain rfl := two_args rfl rfl ha
  have ht' : splitA (gs ds 0) (gs ds 1) = some t := ht
  unfold splitA at ht'
  cases hq : (decide ((gs ds 0).size < 4294967281) && decide (1 ≤ (gs ds 1).size)) with
  | false => rw [hq] at ht'; cases ht'
  | true =>
    rw [hq, cond_true] at ht'
    obtain rfl := Option.some.inj ht'
    rw [Bool.and_eq_true, decide_eq_true_iff, decide_eq_true_iff] at hq
    have hm : w.cell? ⟨g, 0, none⟩ = some (.int .i64 mx) := by
      obtain ⟨_, _, _, ty, i, h3⟩ := hgl g _ hg
      unfold World.cell?
      rw [show w.heap[(⟨g, 0, none⟩ : Addr).block]? = _ from h3]; rfl
    refine (hc (gs ds 0) (gs ds 1) mx w hq.1 hm hq.2).mono ?_
    rintro e' w' ⟨he, rfl⟩
    refine ⟨_, he, ?_⟩
    have hl := splitL_length (a := gs ds 0) hq.2
    have hB := (Below.refl w.heap.size w).alloc (Nat.le_refl _) (.cells ((splitL (gs ds 0) (gs ds 1)).map Value.string).toArray t9)
    refine ⟨⟨rfl, rfl, rfl, hB.size, fun b h _ => hB.block b h⟩, ⟨fun _ => none, fun _ => none, none, (fun b j h => nomatch h), ?_⟩, outs_none _ _ _ rfl⟩
    have hnr : newR [(false, [((.sl e : K), 0)])] = none := rfl
    show AVRep _ 0 (mkR [(false, [(.sl e, 0)])] [.l ((splitL (gs ds 0) (gs ds 1)).map fun s => [.s s])]) _
    unfold mkR
    rw [hnr]
    refine ⟨rfl, fun v hv => by obtain rfl := List.mem_singleton.1 hv; rfl, fun j c v e1 e2 => ?_⟩
    cases j with
    | succ j => simp [cellsR] at e1
    | zero =>
      have e3 : Cell.sl 0 e ((splitL (gs ds 0) (gs ds 1)).map fun s => [D.s s]) = c := Option.some.inj e1
      obtain rfl := Option.some.inj e2
      rw [← e3]
      have hN' : ¬ N w.heap.size := fun h => Nat.lt_irrefl _ (hN _ h).1
      refine .sl e _ w.heap.size 0 _ (Lib.countB (gs ds 0) (gs ds 1) + 1) (fun i _ => .string ((splitL (gs ds 0) (gs ds 1)).getD i ByteArray.empty)) (by show _ = (List.map _ _).length; rw [List.length_map, hl]) (Nat.succ_pos _) (by show 0 < (kinds P e).length; rw [hk]; decide) (fun h => h.elim hN' fun ⟨p, hp⟩ => nomatch hp) (fun i j hi hj => ?_) (fun i j k hi hkk => ?_) (Nat.le_refl _)
      · have hj' : j < (kinds P e).length := hj
        rw [hk] at hj'
        show World.cell? _ ⟨_, 0 + (i * (kinds P e).length + j), none⟩ = _
        rw [hk]
        obtain rfl : j = 0 := by simp at hj'; exact hj'
        have h1 : (w.alloc (.cells ((splitL (gs ds 0) (gs ds 1)).map Value.string).toArray t9)).heap[w.heap.size]? = some (.cells ((splitL (gs ds 0) (gs ds 1)).map Value.string).toArray t9) := by show (w.heap.push _)[w.heap.size]? = _; simp
        unfold World.cell?
        have h1' : (w.alloc (.cells ((splitL (gs ds 0) (gs ds 1)).map Value.string).toArray t9)).heap[(⟨w.heap.size, 0 + (i * 1 + 0), none⟩ : Addr).block]? = some (.cells ((splitL (gs ds 0) (gs ds 1)).map Value.string).toArray t9) := h1
        erw [h1']
        have hi' : i < (splitL (gs ds 0) (gs ds 1)).length := by rw [hl]; exact hi
        simp [List.getD_eq_getElem?_getD, hi']
      · have hk' : (kinds P e)[j]? = some k := hkk
        rw [hk] at hk'
        match j, hk' with
        | 0, hk' =>
          obtain rfl := Option.some.inj hk'
          have hi' : i < (splitL (gs ds 0) (gs ds 1)).length := by rw [hl]; exact hi
          have e4 : (((splitL (gs ds 0) (gs ds 1)).map fun s => [D.s s]).getD i []).getD 0 .j = .s ((splitL (gs ds 0) (gs ds 1)).getD i ByteArray.empty) := by simp [List.getD_eq_getElem?_getD, hi']
          show RepD _ _ _ _ ((((splitL (gs ds 0) (gs ds 1)).map fun s => [D.s s]).getD i []).getD 0 .j) _
          rw [e4]
          exact .str _
theorem cutA_ok (k : Nat) {g : Nat} {mx : Int} (hf : P.funcs[f]? = some fn) (hb : fn.body.isSome = true) (hn : (fn.name == "runtime.NumGoroutine") = false) (hg : gl g = some [.int .i64 mx])
    (hc : ∀ (a b : ByteArray) (m : Int) (w : World), a.size < 4294967281 → w.cell? ⟨g, 0, none⟩ = some (.int .i64 m) → Calls P f #[.string a, .string b] w fun e w' => e = .returned (.tuple #[.string ⟨(Lib.cut a.data.toList b.data.toList).1.toArray⟩, .string ⟨(Lib.cut a.data.toList b.data.toList).2.1.toArray⟩, .bool (Lib.cut a.data.toList b.data.toList).2.2]) ∧ ∃ n, w' = w.drewN n) : SpecOk P gl f (cutA.sp k) := by
  refine ⟨rfl, fun w N args ds t hN hgl ha ht => .inl ⟨⟨fn, hf, hb, hn⟩, ?_⟩⟩
  obtain rfl := two_args rfl rfl ha
  have ht' : cutA (gs ds 0) (gs ds 1) = some t := ht
  unfold cutA at ht'
  cases hq : decide ((gs ds 0).size < 4294967281) with
  | false => rw [hq] at ht'; cases ht'
  | true =>
    rw [hq, cond_true] at ht'
    obtain rfl := Option.some.inj ht'
    rw [decide_eq_true_iff] at hq
    have hm : w.cell? ⟨g, 0, none⟩ = some (.int .i64 mx) := by
      obtain ⟨_, _, _, ty, i, h3⟩ := hgl g _ hg
      unfold World.cell?
      rw [show w.heap[(⟨g, 0, none⟩ : Addr).block]? = _ from h3]; rfl
    refine (hc (gs ds 0) (gs ds 1) mx w hq hm).mono ?_
    rintro e' w' ⟨he, n, rfl⟩
    refine ⟨_, he, ?_⟩
    generalize (Lib.cut (gs ds 0).data.toList (gs ds 1).data.toList).1 = x
    generalize (Lib.cut (gs ds 0).data.toList (gs ds 1).data.toList).2.1 = y
    generalize (Lib.cut (gs ds 0).data.toList (gs ds 1).data.toList).2.2 = z
    refine ⟨⟨rfl, rfl, rfl, Nat.le_refl _, fun b h _ => rfl⟩, ⟨fun _ => none, fun _ => none, none, (fun b j h => nomatch h), ?_⟩, outs_none _ _ _ rfl⟩
    refine ⟨[.string ⟨x.toArray⟩, .string ⟨y.toArray⟩, .bool z], rfl, ⟨rfl, fun v hv => ?_, fun j c v h1 h2 => ?_⟩, ⟨rfl, fun v hv => ?_, fun j c v h1 h2 => ?_⟩, ⟨rfl, fun v hv => ?_, fun j c v h1 h2 => ?_⟩, trivial⟩
    · obtain rfl := List.mem_singleton.1 hv; rfl
    · cases j with
      | zero => obtain rfl := Option.some.inj h1; obtain rfl := Option.some.inj h2; rfl
      | succ j => simp [cellsR] at h1
    · obtain rfl := List.mem_singleton.1 hv; rfl
    · cases j with
      | zero => obtain rfl := Option.some.inj h1; obtain rfl := Option.some.inj h2; rfl
      | succ j => simp [cellsR] at h1
    · obtain rfl := List.mem_singleton.1 hv; rfl
    · cases j with
      | zero => obtain rfl := Option.some.inj h1; obtain rfl := Option.some.inj h2; rfl
      | succ j => simp [cellsR] at h1
/-- The world holds some such number. -/
theorem mx_at {w : World} {g : Nat} {t : TypeId} {zero : Array Value} (h : w.ShapedOpen P) (hg : g < P.globals.size) (h0 : ((begin P (fun _ _ => 0) default).world.heap[g]?).bind Obj.row? = some (zero, t)) (hz : zero.size = 1)
    (hb : P.buildable t = true) (hc : P.cellTypes P.depth t = some [t]) (hu : P.underlying t = some (.int .i64)) : ∃ m, GlobAt w (fun _ => False) g [.int .i64 m] := by
  obtain ⟨cs, hh, hs, hr⟩ := h.1 g zero t hg h0
  obtain ⟨ts, hts, hdv, hall⟩ := hr hb
  rw [hc] at hts
  cases hts
  have h1 : cs.size = 1 := by omega
  match cs, h1 with
  | ⟨[v]⟩, hsz =>
    obtain ⟨u, hu', hok⟩ := hall 0 v (by simp)
    have : u = t := by simpa using hu'.symm
    subst this
    unfold Cell.ok at hok
    rw [hu] at hok
    clear hall hr hdv
    cases v <;> simp at hok
    next k' n =>
      refine ⟨n, by simp, fun x hx => by obtain rfl := List.mem_singleton.1 hx; rfl, id, u, (0, 0), ?_⟩
      rw [hh, hok.1]
end
end Go.Proofs.YthabgkbpghpokaaDoor.Ev
