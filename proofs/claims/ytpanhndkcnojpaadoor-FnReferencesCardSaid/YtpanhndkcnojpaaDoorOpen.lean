/- Arguments that are structs of whole numbers, opened to their cells. No condition. -/
import Derived.WalkKit
import Derived.ProofKit
import Derived.OpenShut
import Derived.ChangeOld
import Derived.Below
import Derived.Carry
namespace Go.Proofs.YtpanhndkcnojpaaDoor.Open
open Go.ChangeShapes Go.WideShapes Go.ChangeAt Go.RowKit

/-- The number in a cell. -/
def numOf : Value → Int
  | .int _ m => m
  | _ => 0

theorem cell_int {P : Program} {w : World} {r : Reach} {base : Nat} {u : TypeId} {v : Value} {k : IntKind} (hu : P.underlying u = some (.int k)) (h : Cell.okWide P w r base u v) :
    v = .int k (numOf v) ∧ (Lit.int k (numOf v)).wf = true := by
  simp only [Cell.okWide, hu] at h
  cases v <;> simp_all [Cell.ok, numOf, Lit.wf, IntKind.has]

/-- A struct all of whose cells are of one kind of whole numbers. -/
theorem open_cells {P : Program} {w : World} {r : Reach} {base : Nat} {t u : TypeId} {fs : Array Field} {v : Value} {k : IntKind} (n : Nat) (ht : P.underlying t = some (.struct fs)) (hts : P.cellTypes P.depth t = some (List.replicate n u))
    (hn : P.cellsOf t = n) (hu : P.underlying u = some (.int k)) (h : Value.okWide P w r base t v) :
    ∃ l : List Int, l.length = n ∧ v = .agg (l.map (Value.int k)).toArray ∧ ∀ x ∈ l, (Lit.int k x).wf = true := by
  simp only [Value.okWide, ht] at h
  obtain ⟨cs, rfl, hsz, ts, hts2, _, hall⟩ := h
  rw [hts] at hts2
  obtain rfl := Option.some.inj hts2
  have hcell : ∀ (i : Nat) (c : Value), cs[i]? = some c → c = .int k (numOf c) ∧ (Lit.int k (numOf c)).wf = true := by
    intro i c hc
    obtain ⟨u', hu', hok⟩ := hall i c hc
    have : u' = u := by
      obtain ⟨_, e⟩ := List.getElem?_eq_some_iff.1 hu'
      rw [← e, List.getElem_replicate]
    subst this
    exact cell_int hu hok
  refine ⟨cs.toList.map numOf, by rw [List.length_map, Array.length_toList, hsz, hn], ?_, ?_⟩
  · congr 1
    apply Array.ext'
    simp only [List.map_map]
    apply List.ext_getElem?
    intro i
    rw [List.getElem?_map, Array.getElem?_toList]
    cases hc : cs[i]? with
    | none => rfl
    | some c => simp only [Option.map_some, Function.comp]; rw [← (hcell i c hc).1]
  · intro x hx
    obtain ⟨c, hc, rfl⟩ := List.mem_map.1 hx
    obtain ⟨i, hi⟩ := List.mem_iff_getElem?.1 hc
    rw [Array.getElem?_toList] at hi
    exact (hcell i c hi).2

theorem list2 {α : Type} {l : List α} (h : l.length = 2) : ∃ a b, l = [a, b] := by
  match l, h with
  | [a, b], _ => exact ⟨a, b, rfl⟩
theorem list3 {α : Type} {l : List α} (h : l.length = 3) : ∃ a b c, l = [a, b, c] := by
  match l, h with
  | [a, b, c], _ => exact ⟨a, b, c, rfl⟩
theorem list16 {α : Type} {l : List α} (h : l.length = 16) : ∃ a0 a1 a2 a3 a4 a5 a6 a7 a8 a9 a10 a11 a12 a13 a14 a15, l = [a0, a1, a2, a3, a4, a5, a6, a7, a8, a9, a10, a11, a12, a13, a14, a15] := by
  match l, h with
  | [a0, a1, a2, a3, a4, a5, a6, a7, a8, a9, a10, a11, a12, a13, a14, a15], _ => exact ⟨a0, a1, a2, a3, a4, a5, a6, a7, a8, a9, a10, a11, a12, a13, a14, a15, rfl⟩
theorem list21 {α : Type} {l : List α} (h : l.length = 21) : ∃ a0 a1 a2 a3 a4 a5 a6 a7 a8 a9 a10 a11 a12 a13 a14 a15 a16 a17 a18 a19 a20, l = [a0, a1, a2, a3, a4, a5, a6, a7, a8, a9, a10, a11, a12, a13, a14, a15, a16, a17, a18, a19, a20] := by
  match l, h with
  | [a0, a1, a2, a3, a4, a5, a6, a7, a8, a9, a10, a11, a12, a13, a14, a15, a16, a17, a18, a19, a20], _ => exact ⟨a0, a1, a2, a3, a4, a5, a6, a7, a8, a9, a10, a11, a12, a13, a14, a15, a16, a17, a18, a19, a20, rfl⟩
end Go.Proofs.YtpanhndkcnojpaaDoor.Open
