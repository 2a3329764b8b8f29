/- Entries as cells: a row of entries, three cells each. No condition. -/
import Derived.Test.YtjbdfmniiiaakaaChk
import Derived.Test.YtjbdfmniiiaakaaOnly
namespace Go.Proofs.Ytjbdfmniiiaakaa
set_option linter.unusedVariables false
open Go.RowKit
open Ent (E)

def ecells (x : E) : List Value := [.int .i64 x.k, .int .i64 x.t, .string x.s]
def flat : List E → List Value
  | [] => []
  | x :: l => ecells x ++ flat l
theorem ev_ecells (x : E) : ev x = .agg (ecells x).toArray := rfl
theorem flat_len (l : List E) : (flat l).length = l.length * 3 := by
  induction l with
  | nil => rfl
  | cons x l ih => simp only [flat, List.length_append, ih, List.length_cons]; simp [ecells]; omega
theorem flat_append (l m : List E) : flat (l ++ m) = flat l ++ flat m := by
  induction l with
  | nil => rfl
  | cons x l ih => simp [flat, ih]
theorem flat_one (x : E) : flat [x] = ecells x := by simp [flat]
theorem flat_take (l : List E) (n : Nat) : flat (l.take n) = (flat l).take (n * 3) := by
  induction l generalizing n with
  | nil => simp [flat]
  | cons x l ih =>
    cases n with
    | zero => simp [flat]
    | succ n =>
      rw [List.take_succ_cons, flat, flat, ih, show (n + 1) * 3 = (ecells x).length + n * 3 by simp [ecells]; omega, List.take_length_add_append]
theorem flat_drop (l : List E) (n : Nat) : flat (l.drop n) = (flat l).drop (n * 3) := by
  induction l generalizing n with
  | nil => simp [flat]
  | cons x l ih =>
    cases n with
    | zero => simp [flat]
    | succ n =>
      rw [List.drop_succ_cons, flat, ih, show (n + 1) * 3 = (ecells x).length + n * 3 by simp [ecells]; omega, List.drop_length_add_append]
theorem flat_mem (l : List E) : ∀ u ∈ flat l, u.oneCell' = true := by
  induction l with
  | nil => intro u hu; simp [flat] at hu
  | cons x l ih =>
    intro u hu
    simp only [flat, List.mem_append] at hu
    rcases hu with hu | hu
    · simp only [ecells, List.mem_cons, List.not_mem_nil, or_false] at hu
      rcases hu with rfl | rfl | rfl <;> rfl
    · exact ih u hu
theorem flat_get (l : List E) (i : Nat) (h : i < l.length) : (flat l)[i * 3]? = some (.int .i64 l[i].k) ∧ (flat l)[i * 3 + 1]? = some (.int .i64 l[i].t) ∧ (flat l)[i * 3 + 2]? = some (.string l[i].s) := by
  induction l generalizing i with
  | nil => simp at h
  | cons x l ih =>
    cases i with
    | zero => simp [flat, ecells]
    | succ i =>
      have := ih i (by simpa using h)
      have hl : (ecells x).length = 3 := rfl
      simp only [flat]
      rw [List.getElem?_append_right (by omega), List.getElem?_append_right (by omega), List.getElem?_append_right (by omega), hl]
      rw [show (i + 1) * 3 - 3 = i * 3 by omega, show (i + 1) * 3 + 1 - 3 = i * 3 + 1 by omega, show (i + 1) * 3 + 2 - 3 = i * 3 + 2 by omega]
      simpa using this
theorem flat_rows (l : List E) (m : List Value) (hlen : m.length = l.length * 3) (h : ∀ i, (hi : i < l.length) → m[i * 3]? = some (.int .i64 l[i].k) ∧ m[i * 3 + 1]? = some (.int .i64 l[i].t) ∧ m[i * 3 + 2]? = some (.string l[i].s)) : m = flat l := by
  apply List.ext_getElem?
  intro j
  by_cases hj : j < l.length * 3
  · obtain ⟨a, b, c⟩ := h (j / 3) (by omega)
    obtain ⟨a', b', c'⟩ := flat_get l (j / 3) (by omega)
    rcases (by omega : j = j / 3 * 3 ∨ j = j / 3 * 3 + 1 ∨ j = j / 3 * 3 + 2) with e | e | e
    · rw [e, a, a']
    · rw [e, b, b']
    · rw [e, c, c']
  · rw [List.getElem?_eq_none (by omega), List.getElem?_eq_none (by rw [flat_len]; omega)]
/-- the three cells of an entry in a row. -/
theorem Lie.entry {w : World} {B : Nat} {A : Option Addr} {l : List E} (h : Lie w B A (flat l)) (i : Nat) (hi : i < l.length) :
    ∃ b o, A = some ⟨b, o, none⟩ ∧ b < B ∧ w.cell? ⟨b, o + i * 3, none⟩ = some (.int .i64 l[i].k) ∧ w.cell? ⟨b, o + i * 3 + 1, none⟩ = some (.int .i64 l[i].t) ∧ w.cell? ⟨b, o + i * 3 + 2, none⟩ = some (.string l[i].s) := by
  obtain ⟨b, o, h1, h2, h3⟩ := h (by rw [flat_len]; omega)
  obtain ⟨a0, a1, a2⟩ := flat_get l i hi
  exact ⟨b, o, h1, h2, h3 _ _ a0, h3 _ _ a1, h3 _ _ a2⟩
theorem lie_flat_take {w : World} {B : Nat} {A : Option Addr} {l : List E} (h : Lie w B A (flat l)) (n : Nat) : Lie w B A (flat (l.take n)) := fun hp => by
  rw [flat_take] at hp ⊢
  obtain ⟨b, o, h1, h2, h3⟩ := h (by simp only [List.length_take] at hp; omega)
  refine ⟨b, o, h1, h2, fun j u hu => h3 j u ?_⟩
  rw [List.getElem?_take] at hu
  split at hu
  · exact hu
  · cases hu
/-- the element type's row of the table. -/
theorem info_e : (Try.prog.info? 36).map (fun i => (i.zero, i.size, i.bytes)) = some (some (.agg #[.int .i64 0, .int .i64 0, .string ⟨#[]⟩]), 3, 32) := by kernel_rfl
/-- an entry that a program can hold. -/
def GoodE (x : E) : Prop := Fits x.k ∧ Fits x.t ∧ x.s.size ≤ maxLen
/-- what a walk is told of a slice of entries that came in. -/
structure IsEnts (w : World) (a : Option Addr) (len cap : Nat) (l : List E) : Prop where
  num : l.length = len
  le : len ≤ cap
  most : cap ≤ maxLen
  good : ∀ x ∈ l, GoodE x
  lie : Lie w w.heap.size a (flat l)
end Go.Proofs.Ytjbdfmniiiaakaa
