/- Arguments that are slices of bytes, opened to their cells. No condition. -/
import Derived.Test.YtpanhndkcnojpaaDoorOpen
import Derived.Deep.Slices
import Derived.Deep.Fields
import Derived.ChangeSame
namespace Go.Proofs.YtpanhndkcnojpaaDoor.OpenB
open Go.Proofs.YtpanhndkcnojpaaDoor.Open Go.ChangeShapes Go.WideShapes Go.ChangeAt Go.RowKit Go.Deep
/-- All cells of a type are whole numbers. -/
def intsT (P : Program) : Nat → TypeId → Bool
  | 0, _ => false
  | n + 1, t => match P.underlying t with
    | some (.int .u8) => true
    | some (.struct fs) => (List.range (P.cellsOf t)).all fun j => (List.range fs.size).any fun i => match fs[i]? with
      | some f => decide (f.offset ≤ j) && decide (j < f.offset + P.cellsOf f.type) && intsT P n f.type
      | none => false
    | _ => false
section
variable {H : Type} {enc : TypeId × Value → H} {P : Program} {w : World} {base : Nat} {spare : Nat → Bool} {held : Bool}
theorem trod_ints (n : Nat) : ∀ (t : TypeId) (fuel : Nat) (cs : List Value) (x : DataW H × List MemPlace), intsT P n t = true → DataW.trod enc P w base spare held fuel t cs = some x →
    ∀ (j : Nat) c, cs[j]? = some c → c = .int .u8 (Open.numOf c) ∧ (Lit.int .u8 (Open.numOf c)).wf = true := by
  induction n with
  | zero => intro t fuel cs x h; cases h
  | succ n ih =>
    intro t fuel cs x h ht j c hc
    unfold intsT at h
    split at h
    · next hu =>
      obtain ⟨m, rfl, _, hw⟩ := DataW.trod_int hu ht
      match j, hc with
      | 0, hc => obtain rfl := Option.some.inj hc; exact ⟨rfl, hw⟩
      | j + 1, hc => simp at hc
    · next fs hu =>
      obtain ⟨xs, m, _, _, hl, hxl, hg⟩ := DataW.trod_struct hu ht
      have hj : j < P.cellsOf t := by rw [← hl]; exact (List.getElem?_eq_some_iff.1 hc).1
      have h1 := List.all_eq_true.1 h j (List.mem_range.2 hj)
      obtain ⟨i, hi, h2⟩ := List.any_eq_true.1 h1
      split at h2
      · next f hf =>
        rw [Bool.and_eq_true, Bool.and_eq_true, decide_eq_true_iff, decide_eq_true_iff] at h2
        obtain ⟨⟨h3, h4⟩, h5⟩ := h2
        have hq := hg i f hf
        have hil : i < xs.length := by rw [hxl]; exact List.mem_range.1 hi
        rw [List.getElem?_eq_getElem hil] at hq
        refine ih f.type m _ _ h5 hq (j - f.offset) c ?_
        rw [List.getElem?_take_of_lt (by omega), List.getElem?_drop, show f.offset + (j - f.offset) = j by omega]
        exact hc
      · cases h2
    · cases h

theorem open_slice_cells {t e : TypeId} {fuel : Nat} {cs : List Value} {x : DataW H × List MemPlace} (n c : Nat) (ht : P.underlying t = some (.slice e)) (hI : intsT P n e = true) (hC : P.cellsOf e = c) (h : DataW.trod enc P w base spare held fuel t cs = some x) :
    ∃ (A : Option Addr) (len cap : Nat) (zs : List (List Int)), cs = [.slice A len cap] ∧ len ≤ cap ∧ cap ≤ maxLen ∧ zs.length = len ∧ (∀ z ∈ zs, z.length = c ∧ ∀ n ∈ z, (Lit.int .u8 n).wf = true) ∧
      (0 < len → ∃ a, A = some a ∧ ∀ (i : Nat) z, zs[i]? = some z → ∀ (j : Nat) n, z[j]? = some n → w.cell? (a.add (i * c + j)) = some (.int .u8 n)) := by
  rcases open_slice ht h with ⟨rfl, _⟩ | ⟨a, len, cap, m, n2, D, Pl, hcs, hb, hl, hm, hmm, hx, hi⟩
  · exact ⟨none, 0, 0, [], rfl, Nat.le_refl _, by unfold maxLen; omega, rfl, by simp, by simp⟩
  · have hlm : len ≤ m := by rw [hmm]; split <;> omega
    have row : ∀ i, i < len → ∃ z : List Int, z.length = c ∧ (∀ n ∈ z, (Lit.int .u8 n).wf = true) ∧ ∀ (j : Nat) n, z[j]? = some n → w.cell? (a.add (i * c + j)) = some (.int .u8 n) := by
      intro i hil
      obtain ⟨cs', hc, ht'⟩ := hi i (by omega)
      rw [hC] at hc
      obtain ⟨_, hcl, hat⟩ := World.cells?_some hc
      have each := trod_ints n e _ cs' _ hI ht'
      refine ⟨cs'.map Open.numOf, by rw [List.length_map]; omega, ?_, ?_⟩
      · intro n hn
        obtain ⟨v, hv, rfl⟩ := List.mem_map.1 hn
        obtain ⟨j, hj⟩ := List.mem_iff_getElem?.1 hv
        exact (each j v hj).2
      · intro j n hj
        rw [List.getElem?_map] at hj
        obtain ⟨v, hv, rfl⟩ := Option.map_eq_some_iff.1 hj
        have hjl : j < c := by have := (List.getElem?_eq_some_iff.1 hv).1; omega
        have hcell := hat j hjl
        rw [← Go.Deep.add_add, hcell, hv]
        exact congrArg some (each j v hv).1
    obtain ⟨zs, hz1, hz2⟩ : ∃ zs : List (List Int), zs.length = len ∧ ∀ (i : Nat) z, zs[i]? = some z → z.length = c ∧ (∀ n ∈ z, (Lit.int .u8 n).wf = true) ∧ ∀ (j : Nat) n, z[j]? = some n → w.cell? (a.add (i * c + j)) = some (.int .u8 n) := by
      refine ⟨(List.range len).map fun i => if hi : i < len then Classical.choose (row i hi) else [], by simp, ?_⟩
      intro i z hz
      rw [List.getElem?_map] at hz
      obtain ⟨q, hq, rfl⟩ := Option.map_eq_some_iff.1 hz
      obtain ⟨hl2, e2⟩ := List.getElem?_eq_some_iff.1 hq
      rw [List.length_range] at hl2
      rw [List.getElem_range] at e2
      subst e2
      rw [dif_pos hl2]
      exact Classical.choose_spec (row i hl2)
    refine ⟨some a, len, cap, zs, hcs, hl, hm, hz1, ?_, fun _ => ⟨a, rfl, fun i z hz j n hj => (hz2 i z hz).2.2 j n hj⟩⟩
    intro z hz
    obtain ⟨i, hi'⟩ := List.mem_iff_getElem?.1 hz
    exact ⟨(hz2 i z hi').1, (hz2 i z hi').2.1⟩
end
end Go.Proofs.YtpanhndkcnojpaaDoor.OpenB
