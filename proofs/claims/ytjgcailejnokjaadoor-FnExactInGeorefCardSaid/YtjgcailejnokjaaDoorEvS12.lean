/- Stores and calls that write: what the model runs. No condition. -/
import Derived.Test.YtjgcailejnokjaaDoorEvS11
namespace Go.Proofs.YtjgcailejnokjaaDoor.Ev
open Go Go.RowKit
set_option linter.unusedVariables false
set_option linter.unusedSimpArgs false
section
variable {E : Env} {w0 : World} {X : Nat → Prop} {st st' : St} {a : Act} {cx : Cx} {o : Oper} {av : AV}
theorem splice_get (l vs : List Value) (p : Nat) (h : p + vs.length ≤ l.length) (q : Nat) : (l.take p ++ vs ++ l.drop (p + vs.length))[q]? = if p ≤ q ∧ q < p + vs.length then vs[q - p]? else l[q]? := by
  have hl : (l.take p).length = p := by rw [List.length_take]; omega
  have hl2 : (l.take p ++ vs).length = p + vs.length := by rw [List.length_append, hl]
  by_cases h1 : q < p
  · rw [List.append_assoc, List.getElem?_append_left (by omega), List.getElem?_take, if_pos h1, if_neg (by omega)]
  · by_cases h2 : q < p + vs.length
    · rw [List.getElem?_append_left (by omega), List.getElem?_append_right (by omega), hl, if_pos ⟨by omega, h2⟩]
    · rw [List.getElem?_append_right (by omega), hl2, List.getElem?_drop, if_neg (by omega)]
      congr 1; omega
theorem run_storeVar {P : Program} {t : TypeId} {w : World} {b p : Nat} {e : TypeId} {cur : Array Value} {v : Value} {vs : List Value} (hn : sizeP P t ≠ 0) (hv : v.cells = vs.toArray) (hl : vs.length = sizeP P t) (h1 : ∀ u ∈ vs, u.oneCell' = true) (hh : w.heap[b]? = some (.cells cur e (0, 0))) (hp : p + vs.length ≤ cur.size) :
    (storeVar t ⟨b, p, none⟩ v).run P w = .ok () (w.setRow b (cur.toList.take p ++ vs ++ cur.toList.drop (p + vs.length)).toArray) := by
  have hr := run_storeCells_at P b p e vs 0 cur w hh (by simpa using hp) h1
  simp only [Nat.add_zero] at hr
  have hne : ¬ (vs.toArray.size ≠ sizeP P t) := by simp [hl]
  simp only [storeVar, Sem.run_bind, run_sizeOf hn, Result.andThen_ok, hv, if_neg hne, Sem.run_ite, List.toList_toArray]
  exact hr
theorem exec_store {t : TypeId} {x y : Operand} (ho : o.op = .store t x y) {ad : Addr} (hx : a.eval x = .pointer (some ad)) {P : Program} {w w' : World} (hr : (storeVar t ad (a.eval y)).run P w = .ok () w') : (execOp a.eval o).run P w = .ok .skip w' := by
  simp [execOp, ho, Instr.storeAt, hx, Instr.sureAddr, hr]
theorem getD_setc (xs : List (List D)) (i : Int) (m p n : Nat) (ds : List D) (q j : Nat) (hj : j < m) (hq : q < xs.length) : ((setc xs i m p n ds).getD q []).getD j .j = if q = i.toNat then (if p ≤ j ∧ j < p + n then ds.getD (j - p) .j else (xs.getD q []).getD j .j) else (xs.getD q []).getD j .j := by
  unfold setc
  have e0 : (xs.set i.toNat (setRow m (xs.getD i.toNat []) p n ds)).getD q [] = if i.toNat = q then setRow m (xs.getD i.toNat []) p n ds else xs.getD q [] := by
    simp only [List.getD_eq_getElem?_getD, List.getElem?_set]
    by_cases e : i.toNat = q
    · rw [if_pos e, if_pos e, if_pos (by omega)]; rfl
    · rw [if_neg e, if_neg e]
  rw [e0]
  by_cases e : i.toNat = q
  · subst e
    rw [if_pos rfl, if_pos rfl]
    simp only [setRow]
    rw [List.getD_eq_getElem?_getD, List.getElem?_map, List.getElem?_range hj]
    simp only [Option.map_some, Option.getD_some]
    by_cases h1 : p ≤ j ∧ j < p + n
    · rw [if_pos h1]
      have e1 : (Nat.ble p j && Nat.blt j (p + n)) = true := by rw [Bool.and_eq_true]; exact ⟨Nat.ble_eq_true_of_le h1.1, Nat.ble_eq_true_of_le h1.2⟩
      rw [e1]; rfl
    · rw [if_neg h1]
      have e1 : (Nat.ble p j && Nat.blt j (p + n)) = false := by
        cases hb : (Nat.ble p j && Nat.blt j (p + n)) with
        | false => rfl
        | true => rw [Bool.and_eq_true] at hb; exact absurd ⟨Nat.le_of_ble_eq_true hb.1, Nat.le_of_ble_eq_true hb.2⟩ h1
      rw [e1]; rfl
  · rw [if_neg e, if_neg (Ne.symm e)]
theorem setc_length (xs : List (List D)) (i : Int) (m p n : Nat) (ds : List D) : (setc xs i m p n ds).length = xs.length := by simp [setc]
theorem setRow_world (w : World) (b : Nat) (cs : Array Value) : (w.setRow b cs).os = w.os ∧ (w.setRow b cs).tape = w.tape ∧ (w.setRow b cs).output = w.output ∧ (w.setRow b cs).heap.size = w.heap.size := ⟨rfl, rfl, rfl, by simp [World.setRow]⟩
theorem Rel.q_store (h : Rel E w0 X st a cx) (hdst : o.dst = none) (t : TypeId) (x y : Operand) (ho : o.op = .store t x y) (hav : (storeOp E st t x y).run = some st') : After E w0 X st' o a cx := by
  have fin : ∀ {cx' : Cx} {w' : World}, (execOp a.eval o).run E.P cx.w = .ok .skip w' → Rel E w0 X st' a cx' → cx'.w = w' → cx'.N = cx.N → cx'.A = cx.A → After E w0 X st' o a cx := by
    intro cx' w' h1 h2 h3 h4 h5
    refine .inr ⟨w', h1, cx', ?_, h3, h4, h5⟩
    rw [hdst]; exact h2
  unfold storeOp at hav
  dsimp only at hav
  split at hav
  · rename_i d p cs hx hy
    obtain ⟨vs, hv, hr⟩ := cellsOf_rep hy (fun d => h.opnd d y)
    have hno := opnd_cells_noOwn E (get st) h.glob y hy
    obtain ⟨b, hb, hxv⟩ := (hx ▸ h.opnd 0 x : AVRep cx 0 (.pat d p) (a.eval x))
    split at hav
    · rename_i w bs hg
      obtain ⟨hk, hav⟩ := bif_run hav
      simp only [Bool.and_eq_true, decide_eq_true_eq] at hk
      obtain ⟨⟨k1, k2⟩, k3, k4⟩ := hk
      obtain ⟨hl, hav⟩ := bif_run' hav
      obtain rfl := ret_run hav
      have hn : cs.length = sizeP E.P t := Nat.eq_of_beq_eq_true k1
      have hn0 : sizeP E.P t ≠ 0 := by have := Nat.le_of_ble_eq_true k4; omega
      have hs := h.slots d
      rw [hg] at hs
      obtain ⟨b', vs0, t', hdv, h1, h2, h3, hr0⟩ := hs
      obtain rfl := Option.some.inj (hb.symm.trans h1)
      have hvl : vs.length = sizeP E.P t := by rw [← (hr 0).1]; exact hn
      have hpl : p + vs.length ≤ vs0.length := by rw [← hr0.1, hvl]; exact k2
      have hrun := run_storeVar (P := E.P) (t := t) (v := a.eval y) (p := p) hn0 hv hvl (hr 0).2.1 h3 (by simpa using hpl)
      rw [List.toList_toArray, ← setAllV_eq vs vs0 p hpl] at hrun
      obtain ⟨g1, g2, g3, g4⟩ := setRow_world cx.w b (setAllV vs0 p vs).toArray
      have hch : Ch cx { cx with w := cx.w.setRow b (setAllV vs0 p vs).toArray } (fun b' => b' = b) (fun _ _ => False) (fun _ => False) :=
        ⟨rfl, rfl, fun b' _ hne => setRow_other _ _ _ _ hne, fun b' _ hf => ⟨fun e => hf (.inr ⟨(d, 0), by rw [e]; exact h2⟩), hf⟩, fun _ _ _ => rfl, fun _ _ => rfl⟩
      have av0 : ∀ cs : List Cell, AvoidCs (fun _ _ => False) cs := fun cs c _ => by cases c <;> first | trivial | exact id
      have := h.touch d 0 (w' := cx.w.setRow b (setAllV vs0 p vs).toArray) g1 g2 g3 (Nat.le_of_eq g4.symm) (fun b' _ hne => setRow_other _ _ _ _ fun e => hne (by rw [e]; exact h2)) (av' := .box w (setAll bs p cs))
        ⟨b, setAllV vs0 p vs, t', hdv, h1, h2, setRow_heap _ _ _ _ _ _ h3, (hr0.change hch (av0 _) (fun j c hj hoc => ⟨id, fun b' hb' => ⟨(h.own b' _ hb').1, fun e => ?_, hb'⟩⟩)).setAll p ((hr 0).change hch (av0 _) (fun j c hj hoc => ?_)) hno⟩
      · exact fin (exec_store ho hxv hrun) this rfl rfl rfl
      · rw [e, h2] at hb'; cases hb'
      · rw [hno c (List.mem_of_getElem? hj)] at hoc; cases hoc
    · cases hav
  · rename_i d j i p cs hx hy
    obtain ⟨vs, hv, hr⟩ := cellsOf_rep hy (fun d => h.opnd d y)
    have hno := opnd_cells_noOwn E (get st) h.glob y hy
    obtain ⟨e', b, n', c, hpl, hi0, hin, hxv⟩ := (hx ▸ h.opnd 0 x : AVRep cx 0 (.pel d j i p) (a.eval x))
    split at hav
    · rename_i w e xs hca
      obtain ⟨hk, hav⟩ := bif_run hav
      simp only [Bool.and_eq_true, decide_eq_true_eq] at hk
      obtain ⟨⟨k1, k2⟩, k3, k4⟩ := hk
      have k3 := Nat.eq_of_beq_eq_true k3
      split at hav
      · rename_i ds hds
        obtain rfl := ret_run hav
        have hn : cs.length = sizeP E.P t := Nat.eq_of_beq_eq_true k1
        have hn0 : sizeP E.P t ≠ 0 := by have := Nat.le_of_ble_eq_true k4; omega
        obtain ⟨v, g1, g2, g3, g4⟩ := h.place hca
        obtain ⟨rfl, rfl⟩ := Prod.mk.inj (Option.some.inj (hpl.symm.trans g1))
        have hP := h.P
        have hvl : vs.length = sizeP E.P t := by rw [← (hr 0).1]; exact hn
        obtain ⟨hm, flat, hf, hrr⟩ := g2
        have hO := g3 b rfl
        rcases hf.2 with ⟨h0, _⟩ | ⟨g, cap, cur, he, _, hh, hnc, hcm, hsz, htake⟩
        · cases h0
        · cases he
          rw [hP] at hm hf hrr hsz htake hxv
          have hpos : i.toNat * (kinds E.P e').length + p + vs.length ≤ cur.size := by
            have h5 : (i.toNat + 1) * (kinds E.P e').length ≤ c * (kinds E.P e').length := Nat.mul_le_mul_right _ (by omega)
            rw [Nat.succ_mul] at h5; rw [hsz, hvl]; omega
          have hrun := run_storeVar (P := E.P) (t := t) (v := a.eval y) hn0 hv hvl (hr 0).2.1 hh hpos
          let L := cur.toList.take (i.toNat * (kinds E.P e').length + p) ++ vs ++ cur.toList.drop (i.toNat * (kinds E.P e').length + p + vs.length)
          have hL : ∀ q, L[q]? = if i.toNat * (kinds E.P e').length + p ≤ q ∧ q < i.toNat * (kinds E.P e').length + p + vs.length then vs[q - (i.toNat * (kinds E.P e').length + p)]? else cur.toList[q]? := splice_get cur.toList vs _ (by simpa using hpos)
          have hLl : L.length = cur.size := by
            show (cur.toList.take _ ++ vs ++ cur.toList.drop _).length = _
            simp only [List.length_append, List.length_take, List.length_drop, Array.length_toList]; omega
          obtain ⟨q1, q2, q3, q4⟩ := setRow_world cx.w b L.toArray
          have hch : ∀ b', b' < cx.w.heap.size → ¬ Forb cx b' → (cx.w.setRow b L.toArray).heap[b']? = cx.w.heap[b']? ∧ ¬ Forb cx b' := fun b' _ hf' => ⟨setRow_other _ _ _ _ fun e1 => hf' (.inr ⟨(d, j + 1), by subst e1; exact hO⟩), hf'⟩
          refine fin (exec_store ho hxv hrun) (h.rewrite hca (w' := cx.w.setRow b L.toArray) q1 q2 q3 (Nat.le_of_eq q4.symm) (fun b' _ hne => setRow_other _ _ _ _ fun e1 => hne (by subst e1; exact hO)) fun v' hv' => ?_) rfl rfl rfl
          obtain ⟨_, rfl⟩ := Prod.mk.inj (Option.some.inj (hv'.symm.trans hpl))
          rw [hP]
          obtain ⟨c1, c2, c3⟩ := packCells_get hds
          refine ⟨hm, L.take (xs.length * (kinds E.P e').length), ⟨?_, .inr ⟨b, c, L.toArray, by rw [setc_length], Nat.zero_le _, setRow_heap _ _ _ _ _ _ hh, by rw [setc_length]; exact hnc, hcm, by rw [List.size_toArray, hLl]; exact hsz, by rw [setc_length]⟩⟩, fun q j' k hq hk => ?_⟩
          · rw [List.length_take, hLl, hsz, setc_length]; exact Nat.min_eq_left (Nat.mul_le_mul_right _ hnc)
          · rw [setc_length] at hq
            have hj' : j' < (kinds E.P e').length := (List.getElem?_eq_some_iff.1 hk).1
            have hlt : q * (kinds E.P e').length + j' < xs.length * (kinds E.P e').length := by
              have h5 : (q + 1) * (kinds E.P e').length ≤ xs.length * (kinds E.P e').length := Nat.mul_le_mul_right _ hq
              rw [Nat.succ_mul] at h5; omega
            rw [List.getElem?_take, if_pos hlt, hL, getD_setc _ _ _ _ _ _ _ _ hj' hq]
            obtain ⟨u0, f1, f2⟩ := hrr q j' k hq hk
            have f1' : cur.toList[q * (kinds E.P e').length + j']? = some u0 := by
              rw [← htake, List.getElem?_take, if_pos hlt] at f1; exact f1
            by_cases eq : q = i.toNat
            · rw [if_pos eq]
              subst eq
              by_cases hin' : p ≤ j' ∧ j' < p + sizeP E.P t
              · rw [if_pos hin', if_pos (by rw [hvl]; omega), show i.toNat * (kinds E.P e').length + j' - (i.toNat * (kinds E.P e').length + p) = j' - p by omega]
                have hlt2 : j' - p < vs.length := by rw [hvl]; omega
                have hlt3 : j' - p < cs.length := by rw [hn]; omega
                have hk' : (((kinds E.P e').drop p).take (sizeP E.P t))[j' - p]? = some k := by
                  rw [List.getElem?_take, if_pos (by omega), List.getElem?_drop, show p + (j' - p) = j' by omega]; exact hk
                refine ⟨_, List.getElem?_eq_getElem hlt2, ?_⟩
                have := packCell_rep (c3 (j' - p) k _ hk' (List.getElem?_eq_getElem hlt3)) (hno _ (List.getElem_mem hlt3)) ((hr 0).2.2 _ _ _ (List.getElem?_eq_getElem hlt3) (List.getElem?_eq_getElem hlt2))
                rw [hP] at this
                exact this.change hch
              · rw [if_neg hin', if_neg (by rw [hvl]; omega)]
                exact ⟨u0, f1', f2.change hch⟩
            · rw [if_neg eq]
              have hnin : ¬ (i.toNat * (kinds E.P e').length + p ≤ q * (kinds E.P e').length + j' ∧ q * (kinds E.P e').length + j' < i.toNat * (kinds E.P e').length + p + vs.length) := by
                rw [hvl]
                rintro ⟨r1, r2⟩
                rcases Nat.lt_or_gt_of_ne eq with hlt4 | hlt4
                · have := Nat.mul_le_mul_right (kinds E.P e').length (show q + 1 ≤ i.toNat from hlt4)
                  rw [Nat.succ_mul] at this; omega
                · have := Nat.mul_le_mul_right (kinds E.P e').length (show i.toNat + 1 ≤ q from hlt4)
                  rw [Nat.succ_mul] at this; omega
              rw [if_neg hnin]
              exact ⟨u0, f1', f2.change hch⟩
      · cases hav
    · cases hav
  · cases hav
end
end Go.Proofs.YtjgcailejnokjaaDoor.Ev
