/- Words for memory: bytes as cells, cells that lie where an address leads, a block that is known whole. No condition. -/
import Derived.WalkKit
import Derived.Handy
import Derived.Deep.AppendLies
import Derived.Deep.Draws
import Derived.Laws.AppendOwnNone
import Derived.Laws.CopyOwn
namespace Go.Proofs.Ytjbdfmniiiaakaa
set_option linter.unusedVariables false
open Go.RowKit
/-! ### hidden facts -/
theorem hide {p : Prop} (h : p) : Hid p := h

/-! ### bytes as cells -/
def bytes (l : List UInt8) : List Value := l.map fun x => Value.int .u8 (x.toNat : Int)
theorem bytes_len (l : List UInt8) : (bytes l).length = l.length := by simp [bytes]
theorem bytes_get (l : List UInt8) (j : Nat) (h : j < l.length) : (bytes l)[j]? = some (.int .u8 (l[j].toNat : Int)) := by simp [bytes, h]
theorem bytes_one (l : List UInt8) : ∀ u ∈ bytes l, u.oneCell' = true := by
  intro u hu
  obtain ⟨_, _, rfl⟩ := List.mem_map.1 hu
  rfl
theorem bytes_append (l m : List UInt8) : bytes (l ++ m) = bytes l ++ bytes m := by simp [bytes]
theorem bytes_take (l : List UInt8) (n : Nat) : bytes (l.take n) = (bytes l).take n := by simp [bytes, List.map_take]
theorem bytes_drop (l : List UInt8) (n : Nat) : bytes (l.drop n) = (bytes l).drop n := by simp [bytes, List.map_drop]

/-! ### cells that lie where an address leads -/
/-- The cells 'xs' lie where 'A' leads, in a block below B; where there is no cell nothing is said. -/
def Lie (w : World) (B : Nat) (A : Option Addr) (xs : List Value) : Prop :=
  0 < xs.length → ∃ b o, A = some ⟨b, o, none⟩ ∧ b < B ∧ ∀ j u, xs[j]? = some u → w.cell? ⟨b, o + j, none⟩ = some u

section
variable {w w' : World} {B B' : Nat} {A : Option Addr} {xs : List Value}
theorem Lie.none_ : Lie w B A [] := fun h => absurd h (by simp)
theorem Lie.at_ {k : Nat} (h : Lie w B A xs) (hk : k < xs.length) : ∃ b o, A = some ⟨b, o, none⟩ ∧ b < B ∧ w.cell? ⟨b, o + k, none⟩ = xs[k]? := by
  obtain ⟨b, o, h1, h2, h3⟩ := h (by omega)
  exact ⟨b, o, h1, h2, by rw [h3 k xs[k] (List.getElem?_eq_getElem hk), List.getElem?_eq_getElem hk]⟩
theorem Lie.below (h : Lie w B A xs) (hb : Below B w w') : Lie w' B A xs := fun hn => by
  obtain ⟨b, o, h1, h2, h3⟩ := h hn
  exact ⟨b, o, h1, h2, fun j u hu => (hb.cell (p := ⟨b, o + j, none⟩) h2).trans (h3 j u hu)⟩
theorem Lie.more (h : Lie w B A xs) (hB : B ≤ B') : Lie w B' A xs := fun hn => by
  obtain ⟨b, o, h1, h2, h3⟩ := h hn
  exact ⟨b, o, h1, by omega, h3⟩
theorem Lie.src (h : Lie w B A xs) (hn : 0 < xs.length) : ∃ ad, A = some ad ∧ ∀ j u, xs[j]? = some u → w.cell? (ad.add j) = some u := by
  obtain ⟨b, o, h1, h2, h3⟩ := h hn
  exact ⟨_, h1, fun j u hu => by rw [Addr.add_lit]; exact h3 j u hu⟩
theorem Lie.drew (h : Lie w B A xs) : Lie w.drew B A xs := h
/-- what a row of the call's own holds. -/
theorem Lie.of_own {base e size n c : Nat} (h : w.ownsRow base e size (.slice A n c) n xs) : Lie w w.heap.size A xs := fun hn => by
  rcases h.2 with ⟨h1, h2⟩ | ⟨g, cap, cur, hv, hg, hh, _, _, _, ht⟩
  · have := h.1; rw [h2] at this; omega
  · simp only [Value.slice.injEq] at hv
    obtain ⟨rfl, -, rfl⟩ := hv
    refine ⟨g, 0, rfl, (Array.getElem?_eq_some_iff.1 hh).1, fun j u hu => ?_⟩
    rw [Nat.zero_add, cell_of_row w g j cur e (0, 0) hh]
    rw [← ht, List.getElem?_take] at hu
    split at hu
    · simpa using hu
    · cases hu
/-- the same, and its block is one of the call's own. -/
theorem own_at {base e size n c : Nat} (h : w.ownsRow base e size (.slice A n c) n xs) (hn : 0 < xs.length) :
    ∃ g cur, A = some ⟨g, 0, none⟩ ∧ base ≤ g ∧ g < w.heap.size ∧ w.heap[g]? = some (.cells cur e (0, 0)) ∧ cur.toList.take xs.length = xs := by
  rcases h.2 with ⟨h1, h2⟩ | ⟨g, cap, cur, hv, hg, hh, _, _, _, ht⟩
  · have := h.1; rw [h2] at this; omega
  · simp only [Value.slice.injEq] at hv
    obtain ⟨rfl, -, rfl⟩ := hv
    exact ⟨g, cur, rfl, hg, (Array.getElem?_eq_some_iff.1 hh).1, hh, by rw [h.1]; exact ht⟩
/-- a row's value is a slice. -/
theorem own_form {base e size n : Nat} {v : Value} (h : w.ownsRow base e size v n xs) : ∃ A c, v = .slice A n c := by
  rcases h.2 with ⟨rfl, rfl⟩ | ⟨g, cap, cur, hv, _⟩
  · exact ⟨none, 0, rfl⟩
  · exact ⟨_, _, hv⟩
end

/-! ### a block that is known whole -/
def Blk (w : World) (g : Nat) (t : TypeId) (cs : Array Value) : Prop := w.heap[g]? = some (.cells cs t (0, 0))
section
variable {w w' : World} {g : Nat} {t : TypeId} {cs : Array Value}
theorem Blk.out (h : Blk w g t cs) : w.heap[g]? = some (.cells cs t (0, 0)) := h
theorem Blk.lt (h : Blk w g t cs) : g < w.heap.size := (Array.getElem?_eq_some_iff.1 h).1
theorem Blk.cell (h : Blk w g t cs) (i : Nat) : w.cell? ⟨g, i, none⟩ = cs[i]? := cell_of_row w g i cs t (0, 0) h
theorem Blk.free (h : Blk w g t cs) (i : Nat) : w.frozen? ⟨g, i, none⟩ = false := frozen_of_row w g i cs t h
theorem Blk.new (w : World) (t : TypeId) (cs : Array Value) : Blk (w.alloc (.cells cs t)) w.heap.size t cs := heap_alloc_new w _
theorem Blk.alloc (h : Blk w g t cs) (o : Obj) : Blk (w.alloc o) g t cs := (heap_alloc_old w o h.lt).trans h
theorem Blk.store (h : Blk w g t cs) (i : Nat) (u : Value) : Blk (w.setCell ⟨g, i, none⟩ u) g t (cs.setIfInBounds i u) := heap_setCell_same w g i cs t u h
theorem Blk.other (h : Blk w g t cs) {p : Addr} (hp : g ≠ p.block) (u : Value) : Blk (w.setCell p u) g t cs := (heap_setCell_other w p g u hp).trans h
theorem Blk.below {B : Nat} (h : Blk w g t cs) (hb : Below B w w') (hg : g < B) : Blk w' g t cs := (hb.block g hg).trans h
end
/-! ### a row of the call's own, and its block -/
theorem blk_of_own {w : World} {base e g n : Nat} {xs : List Value} (h : w.ownsRow base e 1 (.slice (some ⟨g, 0, none⟩) n n) n xs) : Blk w g e xs.toArray ∧ base ≤ g := by
  rcases h.2 with ⟨h', _⟩ | ⟨g', cap', cur, h', hb, hg, _, _, hs, ht⟩
  · simp at h'
  · simp only [Value.slice.injEq, Option.some.injEq, Addr.mk.injEq, and_true, true_and] at h'
    obtain ⟨rfl, rfl⟩ := h'
    have e1 : cur.toList = xs := by rw [← ht, List.take_of_length_le (by rw [Array.length_toList, hs]; exact Nat.le_refl _)]
    rw [← e1]
    exact ⟨hg, hb⟩
theorem own_of_blk {w : World} {base e g n : Nat} {xs : List Value} (h : Blk w g e xs.toArray) (hb : base ≤ g) (hn : xs.length = n) (hm : n ≤ maxLen) : w.ownsRow base e 1 (.slice (some ⟨g, 0, none⟩) n n) n xs :=
  ⟨by omega, .inr ⟨g, n, xs.toArray, rfl, hb, h, Nat.le_refl _, hm, by simp [hn], by simp; exact List.take_of_length_le (by omega)⟩⟩

/-! ### 'string(b)' -/
theorem run_str {P : Program} (W : World) (src dst e : TypeId) (A : Option Addr) (cap : Nat) (l : List UInt8) (B : Nat) (hs : P.underlying src = some (.slice e)) (he : P.underlying e = some (.int .u8)) (hd : P.underlying dst = some .string)
    (h : Lie W B A (bytes l)) : (convert src dst (.slice A l.length cap)).run P W = .ok (.string ⟨l.toArray⟩) W := by
  rcases A with _ | ad
  · have hl : l = [] := by
      rcases l with _ | ⟨x, r⟩
      · rfl
      · obtain ⟨b, o, h1, _⟩ := h (by simp [bytes])
        cases h1
    subst hl
    rw [run_convert_bytes_string W src dst e none _ cap hs he hd]
    rfl
  · refine run_convert_bytes_back W src dst e ad cap l hs he hd fun j hj => ?_
    obtain ⟨b, o, h1, _, h3⟩ := h (by rw [bytes_len]; omega)
    obtain rfl := Option.some.inj h1
    rw [Addr.add_lit, h3 j _ (bytes_get l j hj)]
end Go.Proofs.Ytjbdfmniiiaakaa
