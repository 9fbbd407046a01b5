/- What a quiet operation comes to where less is known, it comes to where more is known: all of them. No condition. -/
import Derived.Test.YtpggnjmmpkdkjaaGreatEvS14
namespace Go.Proofs.YtpggnjmmpkdkjaaGreat.Ev
open Go Go.RowKit
set_option linter.unusedVariables false
set_option linter.unusedSimpArgs false
section
variable {E : Env} {g g' : Nat → AV} {o : Oper} {av : AV}
def evBinV (E : Env) (op : BinOp) (t : TypeId) (p q : Option Value) (pl : Br AV) : Br AV :=
  match op, p, q with
    | .quo, some (.int k a), some (.int k' b) => bif decide (k = k') then .br (decide (b = 0)) .none (.ret (.p false [.v (.int k (k.wrap (a.tdiv b)))])) else .none
    | .rem, some (.int k a), some (.int k' b) => bif decide (k = k') then .br (decide (b = 0)) .none (.ret (.p false [.v (.int k (a.tmod b))])) else .none
    | .shl, some (.int k a), some (.int _ b) => .br (decide (b < 0)) .none (.ret (.p false [.v (.int k (k.wrap (a * 2 ^ min b.toNat k.bits)))]))
    | .shr, some (.int k a), some (.int _ b) => .br (decide (b < 0)) .none (.ret (.p false [.v (.int k (a.fdiv (2 ^ min b.toNat k.bits)))]))
    | .add, some (.string a), some (.string b) => .br (decide (a.size + b.size ≤ 140737488355328)) (.ret (.p false [.v (.string (a ++ b))])) .none
    | .eql, some (.agg a), some (.agg b) => match eqV E Op.maxDepth t (.agg a) (.agg b) with
      | some r => bif E.P.eqGuardType E.P.depth t then .none else .ret (.p false [.v (.bool r)])
      | none => .none
    | .neq, some (.agg a), some (.agg b) => match eqV E Op.maxDepth t (.agg a) (.agg b) with
      | some r => bif E.P.eqGuardType E.P.depth t then .none else .ret (.p false [.v (.bool !r)])
      | none => .none
    | _, some _, some _ => pl
    | _, _, _ => .none
theorem evBin_up (h : Less g g') (op : BinOp) (t : TypeId) (x y : Operand) (hp : (evBin E g o op t x y).run = some av) : (evBin E g' o op t x y).run = some av := by
  have hp1 : (evBinV E op t (plainV (opnd E g x)) (plainV (opnd E g y)) (evPlain E g o)).run = some av := hp
  show (evBinV E op t (plainV (opnd E g' x)) (plainV (opnd E g' y)) (evPlain E g' o)).run = some av
  cases h1 : plainV (opnd E g x) with
  | none => rw [h1] at hp1; cases op <;> cases hp1
  | some v1 =>
    cases h2 : plainV (opnd E g y) with
    | none =>
      rw [h1, h2] at hp1
      cases op <;> first | (cases hp1; done) | (cases v1 <;> cases hp1)
    | some v2 =>
      rw [plain_up h h1, plain_up h h2]
      rw [h1, h2] at hp1
      have hpl : (evPlain E g o).run = some av → (evPlain E g' o).run = some av := evPlain_up h
      cases op <;> first
        | exact hpl hp1
        | (cases v1 <;> first | exact hpl hp1 | (cases v2 <;> first | exact hpl hp1 | exact hp1))
theorem evQ_up (h : Less g g') (hp : (evQ E g o).run = some av) : (evQ E g' o).run = some av := by
  have hpl : ∀ {z v}, plainV (opnd E g z) = some v → plainV (opnd E g' z) = some v := fun hz => plain_up h hz
  unfold evQ at hp
  split at hp
  · rename_i x ho; simp only [evQ, ho]; exact mv_up h hp
  · rename_i x ho; simp only [evQ, ho]; exact mv_up h hp
  · rename_i c x y ho
    split at hp
    · rename_i t hc
      simp only [evQ, ho, hpl hc]
      cases t with
      | true => exact mv_up h hp
      | false => exact mv_up h hp
    · cases hp
  · rename_i e ho; simp only [evQ, ho]; exact hp
  · rename_i e x ho
    split at hp
    · rename_i cs hz; simp only [evQ, ho, cells_up h hz]; exact hp
    · cases hp
  · rename_i t parts ho
    obtain ⟨hok, hp⟩ := bif_run' hp
    split at hp
    · rename_i z hz
      split at hp
      · rename_i cs hf; simp only [evQ, ho, hok, hz, fill_up h hf, cond_false]; exact hp
      · cases hp
    · cases hp
  · rename_i t x ho
    simp only [evQ, ho]
    cases hx : opnd E g x with
    | pat d n =>
      rw [hx] at hp
      rw [opnd_up h hx (by simp)]
      simp only [loadV] at hp ⊢
      split at hp
      · rename_i hg; rw [g_up h hg (by simp)]; exact hp
      · cases hp
    | pel d j i n =>
      rw [hx] at hp
      rw [opnd_up h hx (by simp)]
      simp only [loadV] at hp ⊢
      split at hp
      · rename_i hc; rw [cellAt_up h hc (by simp)]; exact hp
      · cases hp
    | ro cs n => rw [hx] at hp; rw [opnd_up h hx (by simp)]; exact hp
    | _ => rw [hx] at hp; cases hp
  · rename_i x ho
    split at hp
    · rename_i d n e; simp only [evQ, ho, opnd_up h e (by simp)]; exact hp
    · rename_i d j i n e; simp only [evQ, ho, opnd_up h e (by simp)]; exact hp
    · rename_i cs n e; simp only [evQ, ho, opnd_up h e (by simp)]; exact hp
    · cases hp
  · rename_i s x f ho
    split at hp
    · rename_i fd d n hf e; simp only [evQ, ho, hf, opnd_up h e (by simp)]; exact hp
    · rename_i fd d j i n hf e; simp only [evQ, ho, hf, opnd_up h e (by simp)]; exact hp
    · rename_i fd cs n hf e; simp only [evQ, ho, hf, opnd_up h e (by simp)]; exact hp
    · cases hp
  · rename_i s x f ho
    split at hp
    · rename_i fd cs hf e; simp only [evQ, ho, hf, opnd_up h e (by simp)]; exact hp
    · cases hp
  · rename_i t x ix ho
    split at hp
    · rename_i d p kd i n e hx hi ht
      simp only [evQ, ho, opnd_up h hx (by simp), hpl hi, ht]; exact hp
    · rename_i cs kd i n e hx hi ht
      simp only [evQ, ho, opnd_up h hx (by simp), hpl hi, ht]; exact hp
    · rename_i c kd i e hx hi ht
      simp only [evQ, ho, opnd_up h hx (by simp), hpl hi, ht]
      obtain ⟨hk, hp2⟩ := bif_run' hp
      rw [hk, cond_false]
      split at hp2
      · rename_i d j w e' xs _hv hr
        rw [res_up h hr (by simp)]; exact hp2
      · rename_i e' xs _hv; exact hp2
      · cases hp2
    · cases hp
  · rename_i t x ix ho
    split at hp
    · rename_i cs kd i n e hx hi ht; simp only [evQ, ho, hpl hx, hpl hi, ht]; exact hp
    · rename_i s kd i hx hi ht; simp only [evQ, ho, hpl hx, hpl hi, ht]; exact hp
    · cases hp
  · rename_i t x lo hi ho
    split at hp
    · rename_i s hx ht
      dsimp only at hp
      split at hp
      · rename_i l u hl hu
        rcases lo with _ | y <;> rcases hi with _ | z
        · cases hl; cases hu; simp only [evQ, ho, hpl hx, ht]; exact hp
        · cases hl
          dsimp only at hu
          split at hu
          · rename_i k n hn; cases hu; simp only [evQ, ho, hpl hx, ht, hpl hn]; exact hp
          · cases hu
        · cases hu
          dsimp only at hl
          split at hl
          · rename_i k n hn; cases hl; simp only [evQ, ho, hpl hx, ht, hpl hn]; exact hp
          · cases hl
        · dsimp only at hl hu
          split at hl
          · rename_i k n hn
            cases hl
            split at hu
            · rename_i k' n' hn'; cases hu; simp only [evQ, ho, hpl hx, ht, hpl hn, hpl hn']; exact hp
            · cases hu
          · cases hl
      · cases hp
    · rename_i hx ht; simp only [evQ, ho, hpl hx, ht]; exact evPlain_up h hp
    · cases hp
  · rename_i x i ho
    split at hp
    · rename_i ps hx; simp only [evQ, ho, opnd_up h hx (by simp)]; exact hp
    · cases hp
  · rename_i t len parts ho
    split at hp
    · rename_i e ht
      dsimp only at hp
      split at hp
      · rename_i z hz
        obtain ⟨hb, hp⟩ := bif_run hp
        split at hp
        · rename_i cs hf
          simp only [evQ, ho, ht, hz]
          rw [hb, cond_true, fill_up h hf]; exact hp
        · cases hp
      · cases hp
    · cases hp
  · rename_i t x y ho
    split at hp
    · rename_i e l c ht hx hy; simp only [evQ, ho, ht, hpl hx, hpl hy]; exact hp
    · cases hp
  · rename_i op t x y yt ho
    simp only [evQ, ho]
    exact evBin_up h op t x y hp
  · rename_i args ts ho
    split at hp
    · rename_i x t ha hts
      split at hp
      · rename_i c hx
        split at hp
        · rename_i q e xs e' hc ht
          simp only [evQ, ho, ha, hts, opnd_up h hx (by simp), res_up h hc (by simp), ht]; exact hp
        · rename_i v hc
          simp only [evQ, ho, ha, hts, opnd_up h hx (by simp), res_up h hc (by simp)]; exact evPlain_up h hp
        · cases hp
      · cases hp
    · cases hp
  · rename_i f args ts ho
    split at hp
    · rename_i n hf
      split at hp
      · rename_i sp hs
        obtain ⟨hl, hp⟩ := bif_run' hp
        split at hp
        · rename_i ds hds
          obtain ⟨r1, r2⟩ := packArgs_up h hds
          simp only [evQ, ho, opnd_up h hf (by simp), hs]
          rw [r2, hl, cond_false, r1]; exact hp
        · cases hp
      · cases hp
    · rename_i e xs hf
      obtain ⟨hk, hp⟩ := bif_run' hp
      simp only [evQ, ho, opnd_up h hf (by simp)]
      rw [hk, cond_false]
      cases hfn : isFnT e with
      | true =>
        rw [hfn, cond_true] at hp
        rw [cond_true]
        split at hp
        · rename_i sp hs
          obtain ⟨hl, hp⟩ := bif_run' hp
          split at hp
          · rename_i ds hds
            obtain ⟨r1, r2⟩ := packArgs_up h hds
            rw [r2, hl, cond_false, r1]; exact hp
          · cases hp
        · cases hp
      | false =>
        rw [hfn, cond_false] at hp
        rw [cond_false]
        obtain ⟨hcl, hp⟩ := bif_run hp
        rw [hcl, cond_true]
        split at hp
        · rename_i sp hs
          obtain ⟨hl, hp⟩ := bif_run' hp
          split at hp
          · rename_i ds hds
            obtain ⟨r1, r2⟩ := packArgs_up h hds
            rw [r2, hl, cond_false, r1]; exact hp
          · cases hp
        · cases hp
    · cases hp
  · rename_i ho; simp only [evQ, ho]; exact evPlain_up h hp
  · rename_i ho; simp only [evQ, ho]; exact evPlain_up h hp
  · rename_i ho; simp only [evQ, ho]; exact evPlain_up h hp
  · rename_i ho; simp only [evQ, ho]; exact evPlain_up h hp
  · rename_i s t x ho
    split at hp
    · rename_i c e hx hs ht
      split at hp
      · rename_i own e' xs hc he
        simp only [evQ, ho, opnd_up h hx (by simp), hs, ht, res_up h hc (by simp), he]; exact hp
      · cases hp
    · rename_i hne
      have hx : opnd E g x ≠ .u := fun e => by
        have hop : o.op.operands.toList.all (isPlain E g) = false := by
          rw [ho]; simp [Op.operands, isPlain, e, plainV]
        unfold evPlain at hp
        rw [hop] at hp
        cases hp
      simp only [evQ, ho, opnd_up h rfl hx]
      exact evPlain_up h hp
  · cases hp
end
end Go.Proofs.YtpggnjmmpkdkjaaGreat.Ev
