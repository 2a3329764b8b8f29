/- Int, Bool and Ints return the value, the index behind it and the error, for byte strings of at most 1000000 bytes, every index and every limit. -/
import Derived.Test.YtjbdfmniiiaakaaLen
import Derived.Test.YtjbdfmniiiaakaaPutI
import Derived.Laws.DeepNot64
namespace Go.Proofs.Ytjbdfmniiiaakaa
set_option linter.unusedVariables false
open Go.RowKit

theorem got_i {g : Bin.Got Int} {v : Int} {n e : Nat} {V N E : Int} (h : g = ⟨v, n, e⟩) (hv : V = v) (hn : N = (n : Int)) (he : E = (e : Int)) :
    Ending.returned (.tuple #[.int .i64 V, .int .i64 N, .int .i64 E]) = .returned (.tuple #[.int .i64 g.v, .int .i64 (g.next : Int), .int .i64 (g.e : Int)]) := by
  subst h hv hn he; rfl
theorem dI_no {l : List UInt8} {a : Int} {g : Bin.Got Nat} (h : Bin.dU l a = g) (he : 0 < g.e) : Bin.dI l a = ⟨0, 0, g.e⟩ := by
  subst h; unfold Bin.dI; rw [if_neg (by omega)]
theorem dI_even {l : List UInt8} {a : Int} {g : Bin.Got Nat} (h : Bin.dU l a = g) (he : g.e = 0) (hm : g.v % 2 = 0) : Bin.dI l a = ⟨((g.v / 2 : Nat) : Int), g.next, 0⟩ := by
  subst h; unfold Bin.dI Bin.zag; rw [if_pos he, if_neg (by omega)]
theorem dI_odd {l : List UInt8} {a : Int} {g : Bin.Got Nat} (h : Bin.dU l a = g) (he : g.e = 0) (hm : g.v % 2 = 1) : Bin.dI l a = ⟨-((g.v / 2 : Nat) : Int) - 1, g.next, 0⟩ := by
  subst h; unfold Bin.dI Bin.zag; rw [if_pos he, if_pos hm]
theorem not_half (u : Nat) (h : u < 18446744073709551616) : bits .xor .i64 (-1) ((u : Int) / 2) = -((u / 2 : Nat) : Int) - 1 := by
  have := i64_not (u / 2) (by omega)
  have e : ((u / 2 : Nat) : Int) = (u : Int) / 2 := by omega
  rw [e] at this ⊢
  omega
theorem and1_u64 (u : Nat) (h : u < 18446744073709551616) : bits .and .u64 (u : Int) 1 = ((u % 2 : Nat) : Int) := by
  have := u64_and_nat u 1 h (by omega)
  rw [nat_mask1] at this
  exact this

set_option maxRecDepth 100000 in
set_option maxHeartbeats 800000 in
theorem int_any (A : Option Addr) (n cap : Nat) (l : List UInt8) (a : Int) (w : World) (hn : n = l.length) (hl : l.length ≤ 1000000) (hA : Lie w w.heap.size A (bytes l)) :
    Calls Try.prog 33 #[.slice A n cap, .int .i64 a] w fun e w' => e = .returned (.tuple #[.int .i64 (Bin.dI l a).v, .int .i64 ((Bin.dI l a).next : Nat), .int .i64 ((Bin.dI l a).e : Nat)]) ∧ w = w' := by
  subst hn
  have hlt := dU_lt l a
  have hu := uint_any A _ cap l a w rfl hl hA
  obtain ⟨g, hg⟩ : ∃ g, Bin.dU l a = g := ⟨_, rfl⟩
  rw [hg] at hu hlt
  by_cases he : 0 < g.e
  · have HF := hide (dI_no hg he)
    clear hg
    go_enter Try.func33, Try.ntmps33
    go_wp2_with fail
    refine Calls.mono hu ?_
    rintro e w1 ⟨rfl, rfl⟩
    go_wp2_with fail
    go_ret3
    exact ⟨got_i HF.out rfl rfl rfl, rfl⟩
  · have he0 : g.e = 0 := by omega
    have hb := and1_u64 g.v hlt
    by_cases h2 : g.v % 2 = 0
    · have HF := hide (dI_even hg he0 h2)
      rw [h2] at hb
      rw [he0] at hu
      obtain ⟨u, next, er⟩ := g
      simp only at hu hlt hb HF
      clear hg he h2
      go_enter Try.func33, Try.ntmps33
      go_wp2_with fail
      refine Calls.mono hu ?_
      rintro e w1 ⟨rfl, rfl⟩
      go_wp2_with fail
      go_ret3
      exact ⟨got_i HF.out (by omega) rfl rfl, rfl⟩
    · have h3 : g.v % 2 = 1 := by omega
      have HF := hide (dI_odd hg he0 h3)
      rw [h3] at hb
      rw [he0] at hu
      obtain ⟨u, next, er⟩ := g
      simp only at hu hlt hb HF
      have HN := hide (not_half u hlt)
      clear hg he h2 h3
      go_enter Try.func33, Try.ntmps33
      go_wp2_with fail
      refine Calls.mono hu ?_
      rintro e w1 ⟨rfl, rfl⟩
      go_wp2_with fail
      go_ret3
      exact ⟨got_i HF.out (by first | exact HN.out | (rw [HN.out]; omega)) rfl rfl, rfl⟩

/-! ### bools -/
theorem got_v {g : Bin.Got Bool} {v b : Bool} {n e : Nat} {N E : Int} (h : g = ⟨v, n, e⟩) (hv : b = v) (hn : N = (n : Int)) (he : E = (e : Int)) :
    Ending.returned (.tuple #[.bool b, .int .i64 N, .int .i64 E]) = .returned (.tuple #[.bool g.v, .int .i64 (g.next : Int), .int .i64 (g.e : Int)]) := by
  subst h hv hn he; rfl
theorem beq_one (n : Nat) : ((n : Int) == 1) = (n == 1) := by
  rw [Bool.eq_iff_iff]; simp; omega
theorem dV_out {l : List UInt8} {a : Int} (h : a < 0 ∨ (l.length : Int) < a) : Bin.dV l a = ⟨false, 0, 2⟩ := by unfold Bin.dV; rw [if_pos h]
theorem dV_end (l : List UInt8) : Bin.dV l (l.length : Int) = ⟨false, 0, 4⟩ := by
  unfold Bin.dV; rw [if_neg (by omega), Int.toNat_natCast, List.drop_length]
theorem dV_at {l : List UInt8} {a : Nat} (h : a < l.length) : Bin.dV l (a : Int) = if 1 < l[a].toNat then ⟨false, 0, 3⟩ else ⟨l[a].toNat == 1, a + 1, 0⟩ := by
  unfold Bin.dV; rw [if_neg (by omega), Int.toNat_natCast, List.drop_eq_getElem_cons h]

set_option maxRecDepth 100000 in
set_option maxHeartbeats 800000 in
theorem bool_any (A : Option Addr) (n cap : Nat) (l : List UInt8) (a : Int) (w : World) (hn : n = l.length) (hl : l.length ≤ 1000000) (hA : Lie w w.heap.size A (bytes l)) :
    Calls Try.prog 58 #[.slice A n cap, .int .i64 a] w fun e w' => e = .returned (.tuple #[.bool (Bin.dV l a).v, .int .i64 ((Bin.dV l a).next : Nat), .int .i64 ((Bin.dV l a).e : Nat)]) ∧ w = w' := by
  subst hn
  by_cases h0 : a < 0
  · have HF := hide (dV_out (l := l) (.inl h0))
    go_enter Try.func58, Try.ntmps58
    go_wp2_with fail
    go_ret3
    exact ⟨got_v HF.out rfl rfl rfl, rfl⟩
  by_cases h1 : (l.length : Int) < a
  · have HF := hide (dV_out (l := l) (.inr h1))
    go_enter Try.func58, Try.ntmps58
    go_wp2_with fail
    go_ret3
    exact ⟨got_v HF.out rfl rfl rfl, rfl⟩
  obtain ⟨k, rfl⟩ : ∃ k : Nat, a = (k : Int) := ⟨a.toNat, by omega⟩
  by_cases h2 : k = l.length
  · subst h2
    have HF := hide (dV_end l)
    go_enter Try.func58, Try.ntmps58
    go_wp2_with fail
    go_ret3
    exact ⟨got_v HF.out rfl rfl rfl, rfl⟩
  have hlt : k < l.length := by omega
  have HF := hide (dV_at hlt)
  obtain ⟨b, o, rfl, hbB, hcell⟩ := hA.at_ (k := k) (by rw [bytes_len]; exact hlt)
  rw [bytes_get l _ hlt] at hcell
  generalize l[k] = x at hcell HF
  by_cases h3 : 1 < x.toNat
  · have HG := hide (HF.out.trans (if_pos h3))
    clear HF h0 h1 h2
    go_enter Try.func58, Try.ntmps58
    go_wp2_with fail
    go_ret3
    exact ⟨got_v HG.out rfl rfl rfl, rfl⟩
  · have HG := hide (HF.out.trans (if_neg h3))
    clear HF h0 h1 h2
    go_enter Try.func58, Try.ntmps58
    go_wp2_with fail
    go_ret3
    exact ⟨got_v HG.out (beq_one _) (by omega) rfl, rfl⟩

/-! ### lists -/
/-- what a function hands back that returns a list of integers, an index and an error. -/
def GotL (w : World) (g : Bin.Got (List Int)) (e : Ending) (w' : World) : Prop :=
  ∃ A c, e = .returned (.tuple #[.slice A g.v.length c, .int .i64 (g.next : Nat), .int .i64 (g.e : Nat)]) ∧ w'.ownsRow w.heap.size 3 1 (.slice A g.v.length c) g.v.length (ints g.v) ∧ Below w.heap.size w w'
theorem info_i : (Try.prog.info? 3).map (fun i => (i.zero, i.size, i.bytes)) = some (some (.int .i64 0), 1, 8) := by kernel_rfl
/-- what was read before and what is read now. -/
def pre (o : List Int) (g : Bin.Got (List Int)) : Bin.Got (List Int) := if g.e = 0 then ⟨o ++ g.v, g.next, 0⟩ else ⟨[], 0, g.e⟩
theorem dIs_bad (l : List UInt8) (m a : Nat) (h : (Bin.dIs l m a).e ≠ 0) : Bin.dIs l m a = ⟨[], 0, (Bin.dIs l m a).e⟩ := by
  cases m with
  | zero => exact absurd rfl h
  | succ m =>
    unfold Bin.dIs at h ⊢
    split
    · rename_i h1
      rw [if_pos h1] at h
      split
      · rename_i h2
        rw [if_pos h2] at h
        exact absurd rfl h
      · rfl
    · rfl
theorem pre_nil (l : List UInt8) (m a : Nat) : pre [] (Bin.dIs l m a) = Bin.dIs l m a := by
  unfold pre
  split
  · rename_i h
    generalize Bin.dIs l m a = g at h
    obtain ⟨v, n, e⟩ := g
    simp only at h
    subst h; rfl
  · rename_i h
    exact (dIs_bad l m a h).symm
theorem pre_end (o : List Int) (l : List UInt8) (a : Nat) : pre o (Bin.dIs l 0 a) = ⟨o, a, 0⟩ := by simp [pre, Bin.dIs]
theorem pre_no {o : List Int} {l : List UInt8} {m a : Nat} {g : Bin.Got Int} (h : Bin.dI l a = g) (he : 0 < g.e) : pre o (Bin.dIs l (m + 1) a) = ⟨[], 0, g.e⟩ := by
  subst h
  unfold pre Bin.dIs
  have : (Bin.dI l a).e ≠ 0 := by omega
  simp [this]
theorem pre_step {o : List Int} {l : List UInt8} {m a : Nat} {g : Bin.Got Int} (h : Bin.dI l a = g) (he : g.e = 0) : pre o (Bin.dIs l (m + 1) a) = pre (o ++ [g.v]) (Bin.dIs l m g.next) := by
  subst h
  by_cases h2 : (Bin.dIs l m (Bin.dI l a).next).e = 0
  · simp [pre, Bin.dIs, he, h2]
  · simp [pre, Bin.dIs, he, h2]
theorem dL_no {l : List UInt8} {a most : Int} {g : Bin.Got Nat} (h : Bin.dLen l a most = g) (he : 0 < g.e) : Bin.dL l a most = ⟨[], 0, g.e⟩ := by
  subst h; unfold Bin.dL; rw [if_neg (by omega)]
theorem dL_yes {l : List UInt8} {a most : Int} {g : Bin.Got Nat} (h : Bin.dLen l a most = g) (he : g.e = 0) : Bin.dL l a most = pre [] (Bin.dIs l g.v g.next) := by
  subst h; unfold Bin.dL; rw [if_pos he, pre_nil]
theorem gotl_no {w w' : World} {g : Bin.Got (List Int)} {e : Nat} (h : g = ⟨[], 0, e⟩) (hb : Below w.heap.size w w') : GotL w g (.returned (.tuple #[.slice none 0 0, .int .i64 0, .int .i64 e])) w' := by
  subst h
  exact ⟨none, 0, rfl, own_nil, hb⟩
theorem gotl_yes {w w' : World} {g : Bin.Got (List Int)} {v : List Int} {n k : Nat} {A : Option Addr} {c : Nat} (h : g = ⟨v, n, 0⟩) (hk : v.length = k) (ho : w'.ownsRow w.heap.size 3 1 (.slice A k c) k (ints v)) (hb : Below w.heap.size w w') :
    GotL w g (.returned (.tuple #[.slice A k c, .int .i64 (n : Nat), .int .i64 0])) w' := by
  subst h hk
  exact ⟨A, c, rfl, ho, hb⟩

set_option maxRecDepth 100000 in
set_option maxHeartbeats 1600000 in
theorem ints_any (A : Option Addr) (n cap : Nat) (l : List UInt8) (a most : Int) (w : World) (hn : n = l.length) (hl : l.length ≤ 1000000) (hm : Fits most) (hA : Lie w w.heap.size A (bytes l)) :
    Calls Try.prog 37 #[.slice A n cap, .int .i64 a, .int .i64 most] w (GotL w (Bin.dL l a most)) := by
  subst hn
  have hu := length_any A _ cap l a most w rfl hl hm hA
  have hok := Bin.dLen_ok l a most
  obtain ⟨g, hg⟩ : ∃ g, Bin.dLen l a most = g := ⟨_, rfl⟩
  rw [hg] at hu hok
  by_cases he : 0 < g.e
  · have HF := hide (dL_no hg he)
    clear hg hok
    go_enter Try.func37, Try.ntmps37
    go_wp2_with fail
    refine Calls.mono hu ?_
    rintro e w1 ⟨rfl, rfl⟩
    go_wp2_with fail
    go_ret3
    exact gotl_no HF.out (Below.refl _ _)
  · have he0 : g.e = 0 := by omega
    obtain ⟨_, hn1, hn2, _, hvm, _⟩ := hok he0
    have HF := hide (dL_yes hg he0)
    rw [he0] at hu
    obtain ⟨v, n0, er⟩ := g
    simp only at hn1 hn2 hu HF hvm
    have hv63 : v ≤ 9223372036854775807 := by have := hm.2; omega
    clear hg he hok he0 hn1
    obtain ⟨i0, hi, hz0, hz1, hz2⟩ := info_parts info_i
    generalize Bin.dL l a most = G at *
    go_enter Try.func37, Try.ntmps37
    go_wp2_with fail
    refine Calls.mono hu ?_
    rintro e w1 ⟨rfl, rfl⟩
    go_wp2_with fail
    clear hu
    go_loopw [10, 12, 28] (fun x s i wr => ∃ (k a1 : Nat) (B : Option Addr) (c : Nat) (out : List Int), k ≤ v ∧ k ≤ a1 ∧ a1 ≤ l.length ∧ x = .int .i64 a1 ∧ s = .slice B k c ∧ i = .int .i64 k ∧ Hid (out.length = k) ∧ Hid (G = pre out (Bin.dIs l (v - k) a1)) ∧
      wr.ownsRow w.heap.size 3 1 (.slice B k c) k (ints out) ∧ Below w.heap.size w wr) (fun _ _ i _ => v - (intOf i).toNat)
    case atStart => exact ⟨0, n0, none, 0, [], by omega, by omega, hn2, rfl, rfl, rfl, rfl, HF, own_nil, Below.refl _ _⟩
    case round =>
      obtain ⟨k, a1, B, c, out, hk, hka, ha1, rfl, rfl, rfl, HO, HG, hown, hbw⟩ := hrel
      by_cases hlt : k < v
      · have hi1 := int_any A _ cap l (a1 : Int) wr rfl hl ((hA.below hbw).more hbw.size)
        have hok := Bin.dI_ok l (a1 : Int)
        obtain ⟨g, hg⟩ : ∃ g, Bin.dI l (a1 : Int) = g := ⟨_, rfl⟩
        rw [hg] at hi1 hok
        have hvk : v - k = (v - (k + 1)) + 1 := by omega
        by_cases he : 0 < g.e
        · have HF2 : Hid (G = ⟨[], 0, g.e⟩) := HG.out.trans (by rw [hvk]; exact pre_no hg he)
          clear hg hok hvk HG
          go_wp2_with fail
          refine Calls.mono hi1 ?_
          rintro e w2 ⟨rfl, rfl⟩
          go_wp2_with fail
          go_ret3
          exact gotl_no HF2.out hbw
        · have he0 : g.e = 0 := by omega
          obtain ⟨_, hq1, hq2, hq3, _⟩ := hok he0
          have HF2 : Hid (G = pre (out ++ [g.v]) (Bin.dIs l (v - (k + 1)) g.next)) := HG.out.trans (by rw [hvk]; exact pre_step hg he0)
          rw [he0] at hi1
          obtain ⟨x, a2, er2⟩ := g
          simp only [Int.toNat_natCast] at hq1 hq2 hi1 HF2
          clear hg hok hvk HG he he0
          go_wp2_with fail
          refine Calls.mono hi1 ?_
          rintro e w2 ⟨rfl, rfl⟩
          go_wp2_with (at_builtin; refine wpList_app rfl (.tmp 40) (.tmp 42) _ rfl w.heap.size 3 i0 _ 1 8 Try.underlying43 hi hz0 hz1 hz2 rfl (by omega) B k c (ints out) (by simp [Act.eval]) (hown.alloc _) (wr.heap.size + 1) (some ⟨wr.heap.size, 0, none⟩) 1 1 (ints [x]) rfl rfl (Lie.new wr (ints [x]) _) (ints_one [x]) (by omega) (by unfold maxLen; omega) (by have := hbw.size; simp; omega) w (hbw.alloc hbw.size _) ?_; intro A2 c2 w2 HA2 hb2)
          go_roundw
          case rel =>
            refine ⟨k + 1, a2, A2, c2, out ++ [x], by omega, by omega, hq2, rfl, rfl, by go_num, ?_, HF2, by rw [ints_append]; exact HA2.out.own, hb2⟩
            show _ = _
            rw [List.length_append, HO.out]; rfl
          case measure => simp [intOf]; omega
      · obtain rfl : k = v := by omega
        have HF2 : Hid (G = ⟨out, a1, 0⟩) := HG.out.trans (by rw [Nat.sub_self]; exact pre_end out l a1)
        go_wp2_with fail
        go_ret3
        exact gotl_yes HF2.out HO.out hown hbw
end Go.Proofs.Ytjbdfmniiiaakaa
