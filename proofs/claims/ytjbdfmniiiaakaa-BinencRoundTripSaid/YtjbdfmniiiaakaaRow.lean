/- A slice of integers that came in, read as a list of bytes or of integers. No condition. -/
import Derived.Test.YtjbdfmniiiaakaaLaw
namespace Go.Proofs.Ytjbdfmniiiaakaa
set_option linter.unusedVariables false
open Go.RowKit

/-- What a walk is told of a slice of integers that came in (the shell's own word). -/
def IsRow (k : IntKind) (w : World) (a : Option Addr) (len cap : Nat) (zs : List Int) : Prop :=
  (a = none ∧ len = 0 ∧ cap = 0 ∧ zs = []) ∨
  ∃ x, a = some x ∧ len ≤ cap ∧ cap ≤ maxLen ∧ zs.length = cap ∧ (∀ i, i < zs.length → w.cell? (x.add i) = some (.int k (zs.getD i 0))) ∧ ∀ n ∈ zs, (Lit.int k n).wf = true

theorem lie_row {w : World} {x : Addr} {cs : List Value} (h : ∀ j u, cs[j]? = some u → w.cell? (x.add j) = some u) : Lie w w.heap.size (some x) cs := fun hp => by
  obtain ⟨b, o, s⟩ := x
  have h0 := h 0 cs[0] (List.getElem?_eq_getElem hp)
  have hs : s = none := by simpa [Addr.add] using World.cell?_spot h0
  subst hs
  refine ⟨b, o, rfl, ?_, fun j u hu => ?_⟩
  · have := h 0 cs[0] (List.getElem?_eq_getElem hp)
    rw [Addr.add_lit] at this
    exact block_lt_of_cell this
  · have := h j u hu
    rwa [Addr.add_lit] at this

theorem row_cells {k : IntKind} {w : World} {a : Option Addr} {n c : Nat} {z : List Int} (h : IsRow k w a n c z) :
    n ≤ c ∧ (z.take n).length = n ∧ (∀ x ∈ z.take n, (Lit.int k x).wf = true) ∧ Lie w w.heap.size a ((z.take n).map (Value.int k)) := by
  rcases h with ⟨rfl, rfl, rfl, rfl⟩ | ⟨x, rfl, h1, h2, h3, h4, h5⟩
  · exact ⟨Nat.le_refl _, rfl, fun x hx => by simp at hx, Lie.none_⟩
  · refine ⟨h1, by simp; omega, fun y hy => h5 y (List.mem_of_mem_take hy), lie_row fun j u hu => ?_⟩
    rw [List.getElem?_map, List.getElem?_take] at hu
    split at hu
    · rename_i hj
      have hjz : j < z.length := by omega
      rw [List.getElem?_eq_getElem hjz] at hu
      simp at hu
      subst hu
      rw [h4 j hjz]
      simp [List.getD, hjz]
    · simp at hu

theorem lie_take {w : World} {B : Nat} {A : Option Addr} {l : List UInt8} (h : Lie w B A (bytes l)) (n : Nat) : Lie w B A (bytes (l.take n)) := fun hp => by
  obtain ⟨b, o, h1, h2, h3⟩ := h (by simp only [bytes_len, List.length_take] at hp ⊢; omega)
  refine ⟨b, o, h1, h2, fun j u hu => h3 j u ?_⟩
  rw [bytes_take, List.getElem?_take] at hu
  split at hu
  · exact hu
  · cases hu
theorem row_bytes {w : World} {a : Option Addr} {n c : Nat} {z : List Int} (h : IsRow .u8 w a n c z) : ∃ l : List UInt8, n = l.length ∧ n ≤ c ∧ Lie w w.heap.size a (bytes l) := by
  obtain ⟨h1, h2, h3, h4⟩ := row_cells h
  refine ⟨(z.take n).map fun x => UInt8.ofNat x.toNat, by rw [List.length_map, h2], h1, ?_⟩
  have e : bytes ((z.take n).map fun x => UInt8.ofNat x.toNat) = (z.take n).map (Value.int .u8) := by
    unfold bytes
    rw [List.map_map]
    apply List.map_congr_left
    intro x hx
    have hw := h3 x hx
    simp only [Lit.wf, Bool.and_eq_true, decide_eq_true_eq] at hw
    have hmin : IntKind.u8.min = 0 := rfl
    have hmax : IntKind.u8.max = 255 := rfl
    rw [hmin, hmax] at hw
    have : (UInt8.ofNat x.toNat).toNat = x.toNat := by simp [UInt8.toNat_ofNat']; omega
    show Value.int .u8 ((UInt8.ofNat x.toNat).toNat : Int) = Value.int .u8 x
    rw [this]
    congr 1
    omega
  rw [e]
  exact h4

def ints (l : List Int) : List Value := l.map (Value.int .i64)
theorem ints_len (l : List Int) : (ints l).length = l.length := by simp [ints]
theorem ints_get (l : List Int) (j : Nat) (h : j < l.length) : (ints l)[j]? = some (.int .i64 l[j]) := by simp [ints, h]
theorem ints_one (l : List Int) : ∀ u ∈ ints l, u.oneCell' = true := by
  intro u hu
  obtain ⟨_, _, rfl⟩ := List.mem_map.1 hu
  rfl
theorem ints_append (l m : List Int) : ints (l ++ m) = ints l ++ ints m := by simp [ints]
def Fits (x : Int) : Prop := -9223372036854775808 ≤ x ∧ x ≤ 9223372036854775807
theorem fits_wf {x : Int} (h : (Lit.int .i64 x).wf = true) : Fits x := by
  simp only [Lit.wf, Bool.and_eq_true, decide_eq_true_eq] at h
  exact h
theorem u32_wf {x : Int} (h : (Lit.int .u32 x).wf = true) : ∃ n : Nat, x = (n : Int) ∧ n < 4294967296 := by
  simp only [Lit.wf, Bool.and_eq_true, decide_eq_true_eq] at h
  have hmin : IntKind.u32.min = 0 := rfl
  have hmax : IntKind.u32.max = 4294967295 := rfl
  rw [hmin, hmax] at h
  exact ⟨x.toNat, by omega, by omega⟩
theorem u64_wf {x : Int} (h : (Lit.int .u64 x).wf = true) : ∃ n : Nat, x = (n : Int) ∧ n < 18446744073709551616 := by
  simp only [Lit.wf, Bool.and_eq_true, decide_eq_true_eq] at h
  have hmin : IntKind.u64.min = 0 := rfl
  have hmax : IntKind.u64.max = 18446744073709551615 := rfl
  rw [hmin, hmax] at h
  exact ⟨x.toNat, by omega, by omega⟩
theorem row_ints {w : World} {a : Option Addr} {n c : Nat} {z : List Int} (h : IsRow .i64 w a n c z) : ∃ l : List Int, n = l.length ∧ n ≤ c ∧ (∀ x ∈ l, Fits x) ∧ Lie w w.heap.size a (ints l) := by
  obtain ⟨h1, h2, h3, h4⟩ := row_cells h
  exact ⟨z.take n, h2.symm, h1, fun x hx => fits_wf (h3 x hx), h4⟩
end Go.Proofs.Ytjbdfmniiiaakaa
