/- Items of the laws on layer 11: as data, as cells, as bytes. No condition. -/
import Derived.Test.YtjbdfmniiiaakaaEx11
import Derived.Test.YtjbdfmniiiaakaaOnly
namespace Go.Proofs.Ytjbdfmniiiaakaa
set_option linter.unusedVariables false
open Go.RowKit

structure It where
  u : Nat
  n : Int
  sA : Option Addr
  sc : Nat
  s : List UInt8
  v : Bool
  lA : Option Addr
  lc : Nat
  L : List Int

def icells (x : It) : List Value := [.int .u64 x.u, .int .i64 x.n, .slice x.sA x.s.length x.sc, .bool x.v, .slice x.lA x.L.length x.lc]
def iv (x : It) : Value := .agg #[.int .u64 x.u, .int .i64 x.n, .slice x.sA x.s.length x.sc, .bool x.v, .slice x.lA x.L.length x.lc]
def iflat : List It → List Value
  | [] => []
  | x :: l => icells x ++ iflat l
theorem iflat_len (l : List It) : (iflat l).length = l.length * 5 := by
  induction l with
  | nil => rfl
  | cons x l ih => simp only [iflat, List.length_append, ih, List.length_cons]; simp [icells]; omega
theorem iflat_get (l : List It) (i : Nat) (h : i < l.length) (r : Nat) (hr : r < 5) : (iflat l)[i * 5 + r]? = (icells l[i])[r]? := by
  induction l generalizing i with
  | nil => simp at h
  | cons x l ih =>
    have hl : (icells x).length = 5 := rfl
    cases i with
    | zero =>
      simp only [iflat, Nat.zero_mul, Nat.zero_add, List.getElem_cons_zero]
      rw [List.getElem?_append_left (by omega)]
    | succ i =>
      have := ih i (by simpa using h)
      simp only [iflat]
      rw [List.getElem?_append_right (by omega), hl, show (i + 1) * 5 + r - 5 = i * 5 + r by omega]
      simpa using this

/-- what the item's slices hold, in the world w, below B. -/
def GoodI (w : World) (B : Nat) (x : It) : Prop :=
  x.u < 18446744073709551616 ∧ Fits x.n ∧ x.s.length ≤ x.sc ∧ Lie w B x.sA (bytes x.s) ∧ x.L.length ≤ x.lc ∧ (∀ z ∈ x.L, Fits z) ∧ Lie w B x.lA (ints x.L)
theorem GoodI.below {w w' : World} {B : Nat} {x : It} (h : GoodI w B x) (hb : Below B w w') : GoodI w' B x := by
  obtain ⟨h1, h2, h3, h4, h5, h6, h7⟩ := h
  exact ⟨h1, h2, h3, h4.below hb, h5, h6, h7.below hb⟩

/-- the five cells of an item in a row. -/
theorem Lie.item {w : World} {B : Nat} {A : Option Addr} {l : List It} (h : Lie w B A (iflat l)) (i : Nat) (hi : i < l.length) :
    ∃ b o, A = some ⟨b, o, none⟩ ∧ b < B ∧ w.cell? ⟨b, o + i * 5, none⟩ = some (.int .u64 l[i].u) ∧ w.cell? ⟨b, o + i * 5 + 1, none⟩ = some (.int .i64 l[i].n) ∧ w.cell? ⟨b, o + i * 5 + 2, none⟩ = some (.slice l[i].sA l[i].s.length l[i].sc) ∧
      w.cell? ⟨b, o + i * 5 + 3, none⟩ = some (.bool l[i].v) ∧ w.cell? ⟨b, o + i * 5 + 4, none⟩ = some (.slice l[i].lA l[i].L.length l[i].lc) := by
  obtain ⟨b, o, h1, h2, h3⟩ := h (by rw [iflat_len]; omega)
  refine ⟨b, o, h1, h2, ?_, ?_, ?_, ?_, ?_⟩
  · exact h3 (i * 5 + 0) _ (iflat_get l i hi 0 (by omega))
  · exact h3 (i * 5 + 1) _ (iflat_get l i hi 1 (by omega))
  · exact h3 (i * 5 + 2) _ (iflat_get l i hi 2 (by omega))
  · exact h3 (i * 5 + 3) _ (iflat_get l i hi 3 (by omega))
  · exact h3 (i * 5 + 4) _ (iflat_get l i hi 4 (by omega))

/-- the bytes of an item. -/
def encT (x : It) : List UInt8 := Bin.enc x.u ++ (Bin.encI x.n ++ (Bin.encB x.s ++ (Bin.encV x.v ++ Bin.encL x.L)))
def encTs : List It → List UInt8
  | [] => []
  | x :: l => encT x ++ encTs l
theorem encTs_append (l m : List It) : encTs (l ++ m) = encTs l ++ encTs m := by
  induction l with
  | nil => rfl
  | cons x l ih => simp [encTs, ih]
theorem encTs_snoc (l : List It) (k : Nat) (h : k < l.length) : encTs (l.take (k + 1)) = encTs (l.take k) ++ encT l[k] := by
  rw [List.take_succ_eq_append_getElem h, encTs_append]
  simp [encTs]
theorem encT_len (x : It) : (encT x).length ≤ 100 + x.s.length + x.L.length * 10 := by
  have h1 := (Bin.enc_len x.u).2
  have h2 := (Bin.enc_len (Bin.zig x.n)).2
  have h3 := (Bin.enc_len x.s.length).2
  have h4 := (Bin.enc_len x.L.length).2
  have h5 := encIs_len x.L
  have h6 : (Bin.encV x.v).length = 1 := by cases x.v <;> rfl
  unfold encT Bin.encI Bin.encB Bin.encL
  simp only [List.length_append]
  omega
/-- in the bytes b, behind the place a, the item x is read back. -/
theorem encT_parts (x : It) (b r : List UInt8) (a : Nat) (ha : a ≤ b.length) (h : b.drop a = encT x ++ r) :
    ∃ a1 a2 a3 a4 a5, Hid (a1 = a + (Bin.enc x.u).length ∧ a2 = a1 + (Bin.encI x.n).length ∧ a3 = a2 + (Bin.encB x.s).length ∧ a4 = a3 + 1 ∧ a5 = a4 + (Bin.encL x.L).length ∧ a5 = a + (encT x).length ∧ a5 ≤ b.length) ∧
      (x.u < 18446744073709551616 → Bin.dU b a = ⟨x.u, a1, 0⟩) ∧ (Fits x.n → Bin.dI b a1 = ⟨x.n, a2, 0⟩) ∧
      (x.s.length < 2 ^ 64 → Bin.dB b a2 x.s.length = ⟨x.s, a3, 0⟩) ∧ Bin.dV b a3 = ⟨x.v, a4, 0⟩ ∧
      ((∀ z ∈ x.L, Fits z) → x.L.length < 2 ^ 64 → Bin.dL b a4 x.L.length = ⟨x.L, a5, 0⟩) := by
  have hb : b = b.take a ++ b.drop a := (List.take_append_drop a b).symm
  have key : ∀ (p q : List UInt8) (k : Nat), k ≤ b.length → b.drop k = p ++ q → b.drop (k + p.length) = q ∧ k + p.length ≤ b.length := by
    intro p q k hk e
    constructor
    · rw [← List.drop_drop, e, List.drop_left]
    · have := congrArg List.length e
      simp only [List.length_drop, List.length_append] at this
      omega
  unfold encT at h
  simp only [List.append_assoc] at h
  obtain ⟨e1, l1⟩ := key _ _ a ha h
  obtain ⟨e2, l2⟩ := key _ _ _ l1 e1
  obtain ⟨e3, l3⟩ := key _ _ _ l2 e2
  obtain ⟨e4, l4⟩ := key _ _ _ l3 e3
  obtain ⟨e5, l5⟩ := key _ _ _ l4 e4
  have hv : (Bin.encV x.v).length = 1 := by cases x.v <;> rfl
  have ht : (encT x).length = (Bin.enc x.u).length + ((Bin.encI x.n).length + ((Bin.encB x.s).length + ((Bin.encV x.v).length + (Bin.encL x.L).length))) := by unfold encT; simp only [List.length_append]
  rw [hv] at e4 l4 e5 l5
  refine ⟨_, _, _, _, _, hide ⟨rfl, rfl, rfl, rfl, rfl, ?_, l5⟩, ?_, ?_, ?_, ?_, ?_⟩
  · rw [ht, hv]; omega
  · intro hu; exact Bin.dU_enc b a x.u _ ha h hu
  · intro hf; exact Bin.dI_enc b _ x.n _ l1 e1 hf
  · intro hs; exact Bin.dB_enc b _ x.s _ _ l2 e2 hs (Int.le_refl _)
  · exact Bin.dV_enc b _ x.v _ l3 e3
  · intro hf hs; exact Bin.dL_enc b x.L _ _ _ l4 e4 hf hs (Int.le_refl _)
end Go.Proofs.Ytjbdfmniiiaakaa
