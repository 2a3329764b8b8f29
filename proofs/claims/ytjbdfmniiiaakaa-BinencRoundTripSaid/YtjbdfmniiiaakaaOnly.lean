/- Words for what a call has turned: the blocks of a set, and new ones. No condition. -/
import Derived.Test.YtjbdfmniiiaakaaLaw
import Derived.Deep.Draws
namespace Go.Proofs.Ytjbdfmniiiaakaa
set_option linter.unusedVariables false
open Go.RowKit

/-- Of the blocks of w those of S alone have turned; new ones may have come. -/
structure Only (w w' : World) (S : Nat → Prop) : Prop where
  os : w'.os = w.os
  tape : w'.tape = w.tape
  output : w'.output = w.output
  size : w.heap.size ≤ w'.heap.size
  block : ∀ i, i < w.heap.size → ¬ S i → w'.heap[i]? = w.heap[i]?

section
variable {a b c w w' : World} {S T : Nat → Prop}
theorem Only.refl (w : World) (S : Nat → Prop) : Only w w S := ⟨rfl, rfl, rfl, Nat.le_refl _, fun _ _ _ => rfl⟩
theorem Only.trans (h : Only a b S) (k : Only b c T) (hT : ∀ i, T i → i < a.heap.size → S i) : Only a c S :=
  ⟨k.os.trans h.os, k.tape.trans h.tape, k.output.trans h.output, Nat.le_trans h.size k.size, fun i hi hn => (k.block i (Nat.lt_of_lt_of_le hi h.size) (fun ht => hn (hT i ht hi))).trans (h.block i hi hn)⟩
theorem Only.more (h : Only a b S) (hS : ∀ i, S i → i < a.heap.size → T i) : Only a b T := ⟨h.os, h.tape, h.output, h.size, fun i hi hn => h.block i hi (fun hs => hn (hS i hs hi))⟩
theorem Only.drew (h : Only a b S) : Only a b.drew S := ⟨h.os, h.tape, h.output, h.size, h.block⟩
theorem Only.drewN (h : Only a b S) (n : Nat) : Only a (b.drewN n) S := ⟨h.os, h.tape, h.output, h.size, h.block⟩
theorem Only.alloc (h : Only a b S) (o : Obj) : Only a (b.alloc o) S :=
  ⟨h.os, h.tape, h.output, Nat.le_trans h.size (by simp), fun i hi hn => (Below.heap_alloc b o i (Nat.lt_of_lt_of_le hi h.size)).trans (h.block i hi hn)⟩
theorem Only.setCell (h : Only a b S) {p : Addr} (hp : S p.block ∨ a.heap.size ≤ p.block) (u : Value) : Only a (b.setCell p u) S :=
  ⟨h.os, h.tape, h.output, by simpa [World.setCell] using h.size, fun i hi hn => (Below.heap_setCell b p u i (by
    rintro rfl
    rcases hp with hp | hp
    · exact hn hp
    · omega)).trans (h.block i hi hn)⟩
theorem Only.of_below (h : Below a.heap.size a b) (S : Nat → Prop) : Only a b S := ⟨h.os, h.tape, h.output, h.size, fun i hi _ => h.block i hi⟩
theorem Only.then_below (h : Only a b S) (k : Below b.heap.size b c) : Only a c S := h.trans (Only.of_below k (fun _ => False)) (fun _ h _ => h.elim)
theorem Only.of_grown {row : Option Nat} (h : a.grownBy b row) : Only a b (fun i => some i = row) := ⟨h.os, h.tape, h.output, h.size, fun i hi hn => h.block i hi hn⟩
theorem Only.then_grown {row : Option Nat} (h : Only a b S) (k : b.grownBy c row) (hr : ∀ i, row = some i → i < a.heap.size → S i) : Only a c S := h.trans (Only.of_grown k) (fun i e hi => hr i e.symm hi)
theorem Only.below {B : Nat} (h : Only a b S) (hB : B ≤ a.heap.size) (hS : ∀ i, S i → B ≤ i) : Below B a b :=
  ⟨h.os, h.tape, h.output, h.size, fun i hi => h.block i (by omega) (fun hs => by have := hS i hs; omega)⟩
theorem Only.blk {g : Nat} {t : TypeId} {cs : Array Value} (h : Only a b S) (hB : Blk a g t cs) (hg : ¬ S g) : Blk b g t cs := (h.block g hB.lt hg).trans hB
theorem Only.own {base e size n : Nat} {v : Value} {xs : List Value} (h : Only a b S) (ho : a.ownsRow base e size v n xs) (hg : ∀ i, v.ownBlock = some i → ¬ S i) : b.ownsRow base e size v n xs := by
  refine ⟨ho.1, ?_⟩
  rcases ho.2 with hn | ⟨g, cap, cur, rfl, hb, hgg, rest⟩
  · exact .inl hn
  · refine .inr ⟨g, cap, cur, rfl, hb, ?_, rest⟩
    rw [h.block g (Array.getElem?_eq_some_iff.1 hgg).1 (hg g rfl)]
    exact hgg
theorem Only.lie {B : Nat} {A : Option Addr} {xs : List Value} (h : Only a b S) (hl : Lie a B A xs) (hB : B ≤ a.heap.size) (hS : ∀ i, S i → B ≤ i) : Lie b B A xs := hl.below (h.below hB hS)
end
theorem Lie.on {w w' : World} {A : Option Addr} {xs : List Value} (h : Lie w w.heap.size A xs) (hb : Below w.heap.size w w') : Lie w' w'.heap.size A xs := (h.below hb).more hb.size
theorem Only.new (w : World) (o : Obj) (S : Nat → Prop) : Only w (w.alloc o) S := (Only.refl w S).alloc o
end Go.Proofs.Ytjbdfmniiiaakaa
