/- Arguments that are slices of structs of whole numbers, opened to their cells. No condition. -/
import Derived.Test.YtelajgllidngiaaDoorCFnExactRingTextOpen
import Derived.Deep.Slices
import Derived.Deep.Fields
import Derived.ChangeSame
import Derived.Test.YtelajgllidngiaaDoorWMore
namespace Go.Proofs.YtelajgllidngiaaDoor.Open
open Go.ChangeShapes Go.WideShapes Go.ChangeAt Go.RowKit Go.Deep
section
variable {H : Type} {enc : TypeId × Value → H} {P : Program} {w : World} {base : Nat} {spare : Nat → Bool} {held : Bool}
/-- A slice of structs of one-cell fields, each a whole number of one kind: its rows. -/
theorem open_slice_ints {t e : TypeId} {fs : Array Field} {fuel : Nat} {cs : List Value} {x : DataW H × List MemPlace} (ht : P.underlying t = some (.slice e)) (he : P.underlying e = some (.struct fs))
    (hone : oneCellFields P fs = true) (hC : P.cellsOf e = fs.size) (hint : ∀ (j : Nat) f, fs[j]? = some f → P.underlying f.type = some (.int .i64)) (h : DataW.trod enc P w base spare held fuel t cs = some x) :
    ∃ (A : Option Addr) (len cap : Nat) (zs : List (List Int)), cs = [.slice A len cap] ∧ len ≤ cap ∧ cap ≤ maxLen ∧ zs.length = len ∧ (∀ z ∈ zs, z.length = fs.size ∧ ∀ n ∈ z, (Lit.int .i64 n).wf = true) ∧
      (0 < len → ∃ a, A = some a ∧ ∀ (i : Nat) z, zs[i]? = some z → ∀ (j : Nat) n, z[j]? = some n → w.cell? (a.add (i * fs.size + j)) = some (.int .i64 n)) := by
  rcases open_slice ht h with ⟨rfl, _⟩ | ⟨a, len, cap, m, n, D, Pl, hcs, hb, hl, hm, hmm, hx, hi⟩
  · exact ⟨none, 0, 0, [], rfl, Nat.le_refl _, by unfold maxLen; omega, rfl, by simp, by simp⟩
  · have hlm : len ≤ m := by rw [hmm]; split <;> omega
    have row : ∀ i, i < len → ∃ z : List Int, z.length = fs.size ∧ (∀ n ∈ z, (Lit.int .i64 n).wf = true) ∧ ∀ (j : Nat) n, z[j]? = some n → w.cell? (a.add (i * fs.size + j)) = some (.int .i64 n) := by
      intro i hil
      obtain ⟨cs', hc, ht'⟩ := hi i (by omega)
      rw [hC] at hc
      obtain ⟨ys, n', hn', hy, hlen, hyl, hf⟩ := DataW.trod_struct he ht'
      obtain ⟨_, hcl, hat⟩ := World.cells?_some hc
      have each : ∀ j, j < fs.size → ∃ n, cs'[j]? = some (.int .i64 n) ∧ (Lit.int .i64 n).wf = true := by
        intro j hjl
        obtain ⟨f, hj⟩ : ∃ f, fs[j]? = some f := ⟨fs[j], Array.getElem?_eq_getElem hjl⟩
        obtain ⟨ho, hk⟩ := hone_of hone j f hj
        have h1 := hf j f hj
        rw [ho, hk] at h1
        have hv : cs'[j]? = some (cs'[j]'(by omega)) := List.getElem?_eq_getElem (by omega)
        have hone' : (cs'.drop j).take 1 = [cs'[j]'(by omega)] := by
          rw [List.drop_eq_getElem_cons (by omega)]
          rfl
        rw [hone'] at h1
        have hys : ys[j]? = some (ys[j]'(by omega)) := List.getElem?_eq_getElem (by omega)
        rw [hys] at h1
        obtain ⟨n1, hn1, _, hn2⟩ := DataW.trod_int (hint j f hj) h1
        injection hn1 with hn1 _
        exact ⟨n1, by rw [hv, hn1], hn2⟩
      have hcs' : cs'.length = fs.size := by omega
      refine ⟨cs'.map numOf, by rw [List.length_map, hcs'], ?_, ?_⟩
      · intro n hn
        obtain ⟨c, hc', rfl⟩ := List.mem_map.1 hn
        obtain ⟨j, hj⟩ := List.mem_iff_getElem?.1 hc'
        have hjl : j < fs.size := by have := (List.getElem?_eq_some_iff.1 hj).1; omega
        obtain ⟨n1, h1, h2⟩ := each j hjl
        rw [hj] at h1
        obtain rfl := Option.some.inj h1
        exact h2
      · intro j n hj
        rw [List.getElem?_map] at hj
        obtain ⟨c, hc', rfl⟩ := Option.map_eq_some_iff.1 hj
        have hjl : j < fs.size := by have := (List.getElem?_eq_some_iff.1 hc').1; omega
        obtain ⟨n1, h1, h2⟩ := each j hjl
        rw [hc'] at h1
        obtain rfl := Option.some.inj h1
        have hcell := hat j hjl
        rw [← Go.Deep.add_add, hcell, hc']
        rfl
    obtain ⟨zs, hz1, hz2⟩ : ∃ zs : List (List Int), zs.length = len ∧ ∀ (i : Nat) z, zs[i]? = some z → z.length = fs.size ∧ (∀ n ∈ z, (Lit.int .i64 n).wf = true) ∧ ∀ (j : Nat) n, z[j]? = some n → w.cell? (a.add (i * fs.size + j)) = some (.int .i64 n) := by
      refine ⟨(List.range len).map fun i => if hi : i < len then Classical.choose (row i hi) else [], by simp, ?_⟩
      intro i z hz
      rw [List.getElem?_map] at hz
      obtain ⟨q, hq, rfl⟩ := Option.map_eq_some_iff.1 hz
      obtain ⟨hl2, e2⟩ := List.getElem?_eq_some_iff.1 hq
      rw [List.length_range] at hl2
      rw [List.getElem_range] at e2
      subst e2
      rw [dif_pos hl2]
      exact Classical.choose_spec (row i hl2)
    refine ⟨some a, len, cap, zs, hcs, hl, hm, hz1, ?_, fun _ => ⟨a, rfl, fun i z hz j n hj => (hz2 i z hz).2.2 j n hj⟩⟩
    intro z hz
    obtain ⟨i, hi'⟩ := List.mem_iff_getElem?.1 hz
    exact ⟨(hz2 i z hi').1, (hz2 i z hi').2.1⟩
end
end Go.Proofs.YtelajgllidngiaaDoor.Open
