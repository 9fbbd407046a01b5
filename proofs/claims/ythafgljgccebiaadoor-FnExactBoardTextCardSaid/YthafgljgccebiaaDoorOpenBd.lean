/- Arguments that are structs of whole numbers with a slice behind them, opened to their cells. No condition. -/
import Derived.Test.YthafgljgccebiaaDoorEvOpen
namespace Go.Proofs.YthafgljgccebiaaDoor.Open
open Go.ChangeShapes Go.WideShapes Go.ChangeAt Go.RowKit Go.Deep
section
variable {H : Type} {enc : TypeId × Value → H} {P : Program} {w : World} {base : Nat} {spare : Nat → Bool} {held : Bool}
theorem open_agg_slice {r : Reach} {b0 : Nat} {t u ts e : TypeId} {fs : Array Field} {v : Value} {d : DataW H} {ps : List MemPlace} (n q : Nat) (fq : Field) (ht : P.underlying t = some (.struct fs)) (hts : P.cellTypes P.depth t = some (List.replicate n u ++ [ts]))
    (hn : P.cellsOf t = n + 1) (hu : P.underlying u = some (.int .i64)) (hus : P.underlying ts = some (.slice e)) (hq : fs[q]? = some fq) (hqt : fq.type = ts) (hoff : fq.offset = n) (hsz : P.cellsOf ts = 1)
    (h : Value.okWide P w r b0 t v) (hd : DataW.Trod enc P w base spare held t v d ps) :
    ∃ (l : List Int) (A : Option Addr) (len cap : Nat), l.length = n ∧ (∀ x ∈ l, (Lit.int .i64 x).wf = true) ∧ v = .agg ((l.map (Value.int .i64) ++ [Value.slice A len cap] : List Value)).toArray ∧
      ∃ fuel x, DataW.trod enc P w base spare held fuel ts [.slice A len cap] = some x := by
  simp only [Value.okWide, ht] at h
  obtain ⟨cs, rfl, hcs, ts', hts2, _, hall⟩ := h
  rw [hts] at hts2
  obtain rfl := Option.some.inj hts2
  have hlen : (List.replicate n u ++ [ts]).length = n + 1 := by simp
  rw [hn] at hcs
  have hint : ∀ (i : Nat) (c : Value), i < n → cs[i]? = some c → c = .int .i64 (numOf c) ∧ (Lit.int .i64 (numOf c)).wf = true := by
    intro i c hi hc
    obtain ⟨u', hu', hok⟩ := hall i c hc
    rw [hlen, Nat.mod_eq_of_lt (by omega), List.getElem?_append_left (by simpa using hi)] at hu'
    have : u' = u := by
      obtain ⟨_, e1⟩ := List.getElem?_eq_some_iff.1 hu'
      rw [← e1, List.getElem_replicate]
    subst this
    exact cell_int hu hok
  have hlast : ∃ A len cap, cs[n]? = some (.slice A len cap) := by
    obtain ⟨c, hc⟩ : ∃ c, cs[n]? = some c := ⟨cs[n]'(by omega), Array.getElem?_eq_getElem (by omega)⟩
    obtain ⟨u', hu', hok⟩ := hall n c hc
    rw [hlen, Nat.mod_eq_of_lt (by omega), List.getElem?_append_right (by simp)] at hu'
    simp at hu'
    subst hu'
    simp only [Cell.okWide, hus] at hok
    cases c <;> simp_all [Cell.ok]
  obtain ⟨A, len, cap, hA⟩ := hlast
  have hcl : cs.toList.length = n + 1 := by rw [Array.length_toList, hcs]
  refine ⟨(cs.toList.take n).map numOf, A, len, cap, by rw [List.length_map, List.length_take, hcl]; omega, ?_, ?_, ?_⟩
  · intro x hx
    obtain ⟨c, hc, rfl⟩ := List.mem_map.1 hx
    obtain ⟨i, hi⟩ := List.mem_iff_getElem?.1 hc
    have hin : i < n := by
      have := (List.getElem?_eq_some_iff.1 hi).1
      rw [List.length_take] at this
      omega
    rw [List.getElem?_take_of_lt hin, Array.getElem?_toList] at hi
    exact (hint i c hin hi).2
  · congr 1
    apply Array.ext'
    simp only
    apply List.ext_getElem?
    intro i
    rw [Array.getElem?_toList]
    by_cases hi : i < n
    · rw [List.getElem?_append_left (by rw [List.length_map, List.length_map, List.length_take, hcl]; omega), List.map_map, List.getElem?_map, List.getElem?_take_of_lt hi, Array.getElem?_toList]
      cases hc : cs[i]? with
      | none => rfl
      | some c => simp only [Option.map_some, Function.comp]; rw [← (hint i c hi hc).1]
    · by_cases hin : i = n
      · subst hin
        have hl : (((cs.toList.take i).map numOf).map (Value.int .i64)).length = i := by rw [List.length_map, List.length_map, List.length_take, hcl]; omega
        rw [hA, List.getElem?_append_right (by omega), hl, Nat.sub_self]
        rfl
      · have hl : ((cs.toList.take n).map numOf).length = n := by rw [List.length_map, List.length_take, hcl]; omega
        rw [Array.getElem?_eq_none (by omega), List.getElem?_eq_none (by rw [List.length_append, List.length_map, hl]; simp; omega)]
  · obtain ⟨fuel, hf⟩ := hd
    obtain ⟨xs, m, _, _, hl, hxl, hg⟩ := DataW.trod_struct ht hf
    have hq' := hg q fq hq
    rw [hqt, hoff, hsz] at hq'
    have hql : q < xs.length := by rw [hxl]; exact (Array.getElem?_eq_some_iff.1 hq).1
    rw [List.getElem?_eq_getElem hql] at hq'
    have hone : ((Value.agg cs).cells.toList.drop n).take 1 = [Value.slice A len cap] := by
      have e1 : (Value.agg cs).cells.toList = cs.toList := rfl
      rw [e1, List.drop_eq_getElem_cons (by omega), List.take_succ_cons, List.take_zero]
      congr 1
      have := (Array.getElem?_eq_some_iff.1 hA).2
      rw [← this]
      simp
    rw [hone] at hq'
    exact ⟨m, _, hq'⟩
theorem list8 {α : Type} {l : List α} (h : l.length = 8) : ∃ a0 a1 a2 a3 a4 a5 a6 a7, l = [a0, a1, a2, a3, a4, a5, a6, a7] := by
  match l, h with
  | [a0, a1, a2, a3, a4, a5, a6, a7], _ => exact ⟨a0, a1, a2, a3, a4, a5, a6, a7, rfl⟩
end
end Go.Proofs.YthafgljgccebiaaDoor.Open
