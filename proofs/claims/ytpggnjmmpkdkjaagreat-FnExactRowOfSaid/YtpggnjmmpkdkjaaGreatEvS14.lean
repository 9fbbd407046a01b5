/- What a quiet operation comes to where less is known, it comes to where more is known. No condition. -/
import Derived.Test.YtpggnjmmpkdkjaaGreatEvS13
namespace Go.Proofs.YtpggnjmmpkdkjaaGreat.Ev
open Go Go.RowKit
set_option linter.unusedVariables false
set_option linter.unusedSimpArgs false
def Less (g g' : Nat → AV) : Prop := ∀ t, g t = .u ∨ g t = g' t
section
variable {E : Env} {g g' : Nat → AV} {o : Oper} {av : AV}
theorem opnd_less (h : Less g g') (x : Operand) : opnd E g x = .u ∨ opnd E g x = opnd E g' x := by
  cases x with
  | tmp t =>
    rcases h t with e | e
    · left; simp only [opnd, e, copyOf]
    · right; simp only [opnd, e]
  | _ => exact .inr rfl
theorem opnd_up (h : Less g g') {x : Operand} {v : AV} (hx : opnd E g x = v) (hv : v ≠ .u) : opnd E g' x = v := by
  rcases opnd_less (E := E) h x with e | e
  · exact absurd (hx.symm.trans e) hv
  · rw [← e]; exact hx
theorem plain_up (h : Less g g') {x : Operand} {v : Value} (hx : plainV (opnd E g x) = some v) : plainV (opnd E g' x) = some v := by
  rcases opnd_less (E := E) h x with e | e
  · rw [e] at hx; cases hx
  · rw [← e]; exact hx
theorem cells_up (h : Less g g') {x : Operand} {v : List Cell} (hx : cellsOf (opnd E g x) = some v) : cellsOf (opnd E g' x) = some v := by
  rcases opnd_less (E := E) h x with e | e
  · rw [e] at hx; cases hx
  · rw [← e]; exact hx
theorem g_up (h : Less g g') {t : Nat} {v : AV} (hx : g t = v) (hv : v ≠ .u) : g' t = v := by
  rcases h t with e | e
  · exact absurd (hx.symm.trans e) hv
  · rw [← e]; exact hx
theorem cellAt_up (h : Less g g') {d j : Nat} {c : Cell} (hx : cellAt (g d) j = c) (hv : c ≠ .u) : cellAt (g' d) j = c := by
  rcases h d with e | e
  · rw [e] at hx; exact absurd hx.symm hv
  · rw [← e]; exact hx
theorem res_up (h : Less g g') {c c' : Cell} (hx : res g c = c') (hv : c' ≠ .u) : res g' c = c' := by
  cases c with
  | ref d j =>
    simp only [res] at hx ⊢
    rcases h d with e | e
    · rw [e] at hx; exact absurd hx.symm hv
    · rw [← e]; exact hx
  | _ => exact hx
theorem mv_up (h : Less g g') {x : Operand} (hx : (mv (opnd E g x)).run = some av) : (mv (opnd E g' x)).run = some av := by
  rcases opnd_less (E := E) h x with e | e
  · rw [e] at hx; cases hx
  · rw [← e]; exact hx
theorem pack_up (h : Less g g') : ∀ {ks : List K} {cs : List Cell} {ds : List D}, packCells ks (cs.map (res g)) = some ds → packCells ks (cs.map (res g')) = some ds
  | [], [], _, hp => hp
  | [], _ :: _, _, hp => by cases hp
  | _ :: _, [], _, hp => by cases hp
  | k :: ks, c :: cs, ds, hp => by
    simp only [List.map_cons, packCells] at hp ⊢
    split at hp
    · rename_i d ds' h1 h2
      have hne : res g c ≠ .u := fun e => by rw [e] at h1; cases k <;> cases h1
      rw [res_up h rfl hne, h1, pack_up h h2]; exact hp
    · cases hp
theorem packArg_up (h : Less g g') {pt : Nat × List K} {a : AV} {ds : List D} (hp : packArg E g pt a = some ds) : packArg E g' pt a = some ds := by
  unfold packArg at hp ⊢
  split at hp
  · exact pack_up h hp
  · exact pack_up h hp
  · exact hp
  · exact hp
  · split at hp
    · rename_i hg; rw [g_up h hg (by simp)]; exact pack_up h hp
    · cases hp
  · split at hp
    · rename_i hc; rw [cellAt_up h hc (by simp)]; exact hp
    · cases hp
  · exact hp
  · cases hp
theorem packArgs_up (h : Less g g') : ∀ {ps : List (Nat × List K)} {xs : List Operand} {ds : List D}, packArgs E g ps xs = some ds → packArgs E g' ps xs = some ds ∧ xs.any (lends g') = xs.any (lends g)
  | [], [], _, hp => ⟨hp, rfl⟩
  | [], _ :: _, _, hp => by cases hp
  | _ :: _, [], _, hp => by cases hp
  | p :: ps, x :: xs, ds, hp => by
    simp only [packArgs] at hp ⊢
    split at hp
    · rename_i d ds' h1 h2
      obtain ⟨r1, r2⟩ := packArgs_up h h2
      cases h0 : Nat.beq p.2.length 0 with
      | true => rw [h0] at h1; cases h1
      | false =>
        rw [h0, cond_false] at h1
        have hne : opnd E g x ≠ .u := fun e => by
          rw [e] at h1
          unfold packArg at h1
          split at h1 <;> first | cases h1 | (rename_i e2 _; cases e2) | (rename_i e2; cases e2)
        have hx := opnd_up h (x := x) rfl hne
        rw [cond_false, hx, packArg_up h h1, r1]
        refine ⟨hp, ?_⟩
        rw [List.any_cons, List.any_cons, r2]
        congr 1
        cases x with
        | tmp t =>
          rcases h t with e | e
          · exact absurd (by simp only [opnd, e, copyOf]) hne
          · simp only [lends, e]
        | _ => rfl
    · cases hp
theorem fill_up (h : Less g g') {pl : Nat → Option (Nat × Nat)} : ∀ {parts : List (Nat × Operand)} {cells cs : List Cell}, fillA E g pl cells parts = some cs → fillA E g' pl cells parts = some cs
  | [], _, _, hp => hp
  | (i, x) :: parts, cells, cs, hp => by
    simp only [fillA] at hp ⊢
    split at hp
    · rename_i off n c h1 h2
      rw [h1, cells_up h h2]
      dsimp only
      cases hb : (Nat.beq c.length n && decide (off + n ≤ cells.length)) with
      | false => rw [hb] at hp; cases hp
      | true => rw [hb] at hp; exact fill_up h hp
    · cases hp
theorem evPlain_up (h : Less g g') (hp : (evPlain E g o).run = some av) : (evPlain E g' o).run = some av := by
  unfold evPlain at hp ⊢
  cases hb : o.op.operands.toList.all (isPlain E g) with
  | false => rw [hb] at hp; cases hp
  | true =>
    rw [hb] at hp
    have h1 : ∀ x ∈ o.op.operands.toList, plainV (opnd E g' x) = plainV (opnd E g x) := by
      intro x hx
      obtain ⟨v, hv⟩ := Option.isSome_iff_exists.1 (List.all_eq_true.1 hb x hx)
      rw [hv]; exact plain_up h hv
    have hb' : o.op.operands.toList.all (isPlain E g') = true := by
      rw [List.all_eq_true] at hb ⊢
      intro x hx
      have := hb x hx
      unfold isPlain at this ⊢
      rw [h1 x hx]; exact this
    rw [hb']
    by_cases hs : ∃ cs b, o.op = .select cs b
    · obtain ⟨cs, b, e⟩ := hs
      exfalso
      rw [cond_true] at hp
      have : ∀ x, qrun E.P (execOp (rho E g) o) ≠ some (.value x) := by
        intro x hx
        have h2 := qrun_run hx default
        rw [show execOp (rho E g) o = (do
          let cases ← cs.mapM fun s => do pure { chan := rho E g s.chan, send := s.send.map (rho E g), zero := ← zeroValue s.elem : CommCase }
          pure (.comm cases b .select)) by simp only [execOp, e]] at h2
        rw [Sem.run_bind] at h2
        revert h2
        generalize (cs.mapM fun s => do pure { chan := rho E g s.chan, send := s.send.map (rho E g), zero := ← zeroValue s.elem : CommCase } : Sem (Array CommCase)).run E.P default = r
        intro h2
        cases r with
        | ok y w => cases h2
        | halt y w => cases h2
      split at hp
      · rename_i v hv; exact this v hv
      · cases hp
    · have he : execOp (rho E g') o = execOp (rho E g) o := execOp_congr o (fun cs b e => hs ⟨cs, b, e⟩) fun x hx => by
        unfold rho; rw [h1 x (by simpa using hx)]
      rw [he]; exact hp
end
end Go.Proofs.YtpggnjmmpkdkjaaGreat.Ev
