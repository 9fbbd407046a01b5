/- What a row's arguments are to the evaluator, and what its contract gives the row. No condition. -/
import Derived.Test.YtpanhndkcnojpaaDoorEvD
import Derived.Test.YtpanhndkcnojpaaDoorEvOpen
namespace Go.Proofs.YtpanhndkcnojpaaDoor.Ev
open Go Go.RowKit
set_option linter.unusedVariables false
section
variable {P : Program} {w : World} {F : Nat → Prop}
theorem RowRep.nil {ds : List D} : RowRep P w F [] ds [] := ⟨rfl, fun j k u h => by simp at h⟩
theorem RowRep.cons {k : K} {ks : List K} {d : D} {ds : List D} {v : Value} {vs : List Value} (h : RepD P w F k d v) (r : RowRep P w F ks ds vs) : RowRep P w F (k :: ks) (d :: ds) (v :: vs) := by
  refine ⟨by simp [r.1], fun j k' u h1 h2 => ?_⟩
  cases j with
  | zero => obtain rfl := Option.some.inj h1; obtain rfl := Option.some.inj h2; exact h
  | succ j => exact r.2 j k' u (by simpa using h1) (by simpa using h2)
theorem ArgsRep.nil {ds : List D} : ArgsRep P w F [] ds [] := trivial
theorem rep_slice {kd : IntKind} {e : TypeId} {c : Nat} {zs : List (List Int)} {A : Option Addr} {len cap : Nat} (hF : ∀ b, ¬ F b) (hk : kinds P e = List.replicate c (.int kd)) (h0 : 0 < c) (hlc : len ≤ cap) (hl : zs.length = len) (hz : ∀ z ∈ zs, z.length = c)
    (hA : 0 < len → ∃ a, A = some a ∧ ∀ (i : Nat) z, zs[i]? = some z → ∀ (j : Nat) n, z[j]? = some n → w.cell? (a.add (i * c + j)) = some (.int kd n)) :
    RepD P w F (.sl e) (.l (zs.map fun z => z.map D.i)) (.slice A len cap) := by
  by_cases hn : len = 0
  · subst hn
    obtain rfl := List.eq_nil_of_length_eq_zero hl
    exact .nil e _ A cap rfl (.inr (by rw [hk, List.length_replicate]; exact h0))
  · have hpos := Nat.pos_of_ne_zero hn
    obtain ⟨a, rfl, hc⟩ := hA hpos
    have hkl : (kinds P e).length = c := by rw [hk]; simp
    have get : ∀ i, i < len → ∃ z, zs[i]? = some z ∧ z.length = c := fun i hi => ⟨_, List.getElem?_eq_getElem (by omega), hz _ (List.getElem_mem _)⟩
    have hsp : a.spot = none := by
      obtain ⟨z, hz0, hzl⟩ := get 0 hpos
      have := hc 0 z hz0 0 _ (List.getElem?_eq_getElem (by omega))
      rw [Nat.zero_mul, Nat.add_zero] at this
      simp only [Addr.add, if_true, World.cell?] at this
      split at this
      · cases hs : a.spot with
        | none => rfl
        | some s => rw [hs] at this; simp at this
      · cases this
    obtain ⟨b, o, s⟩ := a
    dsimp only at hsp
    subst hsp
    refine .sl e _ b o cap len (fun i j => .int kd ((zs.getD i []).getD j 0)) (by simp [D.rows, hl]) hpos (by omega) (hF b) (fun i j hi hj => ?_) (fun i j k hi hk' => ?_) hlc
    · obtain ⟨z, hzi, hzl⟩ := get i hi
      have := hc i z hzi j _ (List.getElem?_eq_getElem (by omega))
      rw [addr_add] at this
      rw [hkl, this]
      simp only [List.getD_eq_getElem?_getD, hzi, Option.getD_some]
      rw [List.getElem?_eq_getElem (by omega : j < z.length)]; rfl
    · obtain ⟨z, hzi, hzl⟩ := get i hi
      have hjc : j < c := by rw [← hkl]; exact (List.getElem?_eq_some_iff.1 hk').1
      rw [hk, List.getElem?_replicate, if_pos hjc] at hk'
      obtain rfl := Option.some.inj hk'
      have e1 : ((((D.l (zs.map fun z => z.map D.i)).rows).getD i []).getD j .j) = .i ((zs.getD i []).getD j 0) := by
        simp only [D.rows, List.getD_eq_getElem?_getD, List.getElem?_map, hzi, Option.map_some, Option.getD_some]
        rw [List.getElem?_eq_getElem (by omega : j < z.length)]; rfl
      rw [e1]
      exact .int kd (.i _)
end
theorem globAt_of_var {P : Program} {W : World} {name : String} {g : Nat} {vs : List Value} (hg : P.globalNamed name = some g) (hv : W.var? P name = some vs.toArray) (h0 : 0 < vs.length) (h1 : vs.all Value.oneCell' = true) : GlobAt W (fun _ => False) g vs := by
  refine ⟨h0, fun v hv => List.all_eq_true.1 h1 v hv, id, ?_⟩
  unfold World.var? at hv
  rw [hg, Option.bind_some] at hv
  split at hv
  · rename_i cs t i hh
    obtain rfl := Option.some.inj hv
    exact ⟨t, i, hh⟩
  · cases hv
theorem globsAt_cons {W : World} {F : Nat → Prop} {g : Nat} {vs : List Value} {l : List (Nat × List Value)} (h : GlobAt W F g vs) (hl : GlobsAt (look l) W F) : GlobsAt (look ((g, vs) :: l)) W F := fun n ws hn => by
  have hn' : (bif Nat.beq g n then some vs else look l n) = some ws := hn
  cases hb : Nat.beq g n with
  | true =>
    rw [hb, cond_true] at hn'
    obtain rfl := Option.some.inj hn'
    obtain rfl := Nat.eq_of_beq_eq_true hb
    exact h
  | false =>
    rw [hb, cond_false] at hn'
    exact hl n ws hn'
/-- What the contract of a law gives its row. -/
theorem ev_calls {P : Program} {gl : Nat → Option (List Value)} {f : FuncId} {sp : Spec} (h : SpecOk P gl f sp) {fn : Func} (hfn : P.funcs[f]? = some fn) (hb : fn.body.isSome = true) (hm : isMut sp = false) (hrt : sp.rt = [(false, [(.bool, 0)])]) {w : World} (hgl : GlobsAt gl w fun _ => False) {ds : List D} {args : List Value} (ha : ∀ F : Nat → Prop, (∀ b, ¬ F b) → ArgsRep P w F sp.pt ds args) (hG : sp.G ds = some [.b true]) :
    Calls P f args.toArray w fun e w' => e = .returned (.bool true) ∧ Below w.heap.size w w' := by
  have hX : ∀ b, ¬ MutB sp.pt args b := fun b => mutB_false (P := P) hm
  refine (h.calls hfn hb (N := fun _ => False) (fun b hb => hb.elim) (hgl.weaken fun b hb => hb.elim (hX b) id) (ha _ fun b hb => hb.elim id (hX b)) hG).mono fun e w' ⟨v, he, hk, ⟨own, pl', bx', _, hr⟩, _⟩ => ?_
  refine ⟨?_, ⟨hk.os, hk.tape, hk.output, hk.size, fun b hb => hk.block b hb (hX b)⟩⟩
  rw [he, hrt] at *
  have hc : CellsRep (cxr P w' own (fun _ => False) pl' bx') 0 0 [.v (.bool true)] [v] := by rw [hrt] at hr; exact hr
  have : v = .bool true := hc.2.2 0 _ _ rfl rfl
  rw [this]
end Go.Proofs.YtpanhndkcnojpaaDoor.Ev
