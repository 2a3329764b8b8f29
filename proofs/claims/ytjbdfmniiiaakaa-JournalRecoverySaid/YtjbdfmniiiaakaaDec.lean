/- Decode returns the entry, the index behind it and the error, for byte strings of at most 1000000 bytes and every index. -/
import Derived.Test.YtjbdfmniiiaakaaNum
import Derived.Deep.Cut
import Derived.Deep.RegionHeld3
import Derived.IntWalk
import Derived.Outline
namespace Go.Proofs.Ytjbdfmniiiaakaa
set_option linter.unusedVariables false
open Go.RowKit

/-- what Decode hands back. -/
def GotD (w : World) (g : Bin.Got Ent.E) (e : Ending) (w' : World) : Prop :=
  e = .returned (.tuple #[ev g.v, .int .i64 (g.next : Nat), .int .i64 (g.e : Nat)]) ∧ Below w.heap.size w w'
theorem gotd_no {w w' : World} {g : Bin.Got Ent.E} {e : Nat} (h : g = ⟨Ent.E0, 0, e⟩) (hb : Below w.heap.size w w') : GotD w g (.returned (.tuple #[.agg #[.int .i64 0, .int .i64 0, .string ⟨#[]⟩], .int .i64 0, .int .i64 (e : Nat)])) w' := by
  subst h; exact ⟨rfl, hb⟩

theorem gotd_ok {w w' : World} {g : Bin.Got Ent.E} {k t x : Nat} {s : ByteArray} (h : g = ⟨⟨k, t, s⟩, x + 4, 0⟩) (hb : Below w.heap.size w w') :
    GotD w g (.returned (.tuple #[.agg #[.int .i64 (k : Int), .int .i64 (t : Int), .string s], .int .i64 ((x : Int) + 4), .int .i64 0])) w' := by
  subst h; exact ⟨by simp [ev], hb⟩
theorem dE_out (l : List UInt8) (a : Int) (h : a < 0 ∨ (l.length : Int) < a) : Ent.dE l a = ⟨Ent.E0, 0, 2⟩ := by
  have hd : Bin.dU l a = ⟨0, 0, 2⟩ := by unfold Bin.dU; rw [if_pos h]
  have := Ent.dE_bad1 l a (by rw [hd]; simp)
  rw [hd] at this
  exact this

set_option maxRecDepth 100000 in
set_option maxHeartbeats 1600000 in
theorem decode_out (A : Option Addr) (n cap : Nat) (l : List UInt8) (a : Int) (w : World) (hn : n = l.length) (h : a < 0 ∨ (l.length : Int) < a) :
    Calls Try.prog 45 #[.slice A n cap, .int .i64 a] w (GotD w (Bin.Got.mk Ent.E0 0 2)) := by
  subst hn
  by_cases h0 : a < 0
  · go_enter Try.func45, Try.ntmps45
    go_wp2_with fail
    exact bodyPost_ret (v := .tuple #[.agg #[.int .i64 0, .int .i64 0, .string ⟨#[]⟩], .int .i64 0, .int .i64 (2 : Nat)]) (by simp [results, Try.results45, go_sem]) rfl (gotd_no rfl (by go_grown))
  · have h1 : l.length < a := by omega
    clear h
    go_enter Try.func45, Try.ntmps45
    go_wp2_with fail
    exact bodyPost_ret (v := .tuple #[.agg #[.int .i64 0, .int .i64 0, .string ⟨#[]⟩], .int .i64 0, .int .i64 (2 : Nat)]) (by simp [results, Try.results45, go_sem]) rfl (gotd_no rfl (by go_grown))

/-- the reader and its row of functions, as Decode lays them. -/
def Laid (w wa : World) (A : Option Addr) (n cap : Nat) (a e k t : Nat) (s : ByteArray) : Prop :=
  Below w.heap.size w wa ∧ Blk wa w.heap.size 36 #[.int .i64 0, .int .i64 0, .string ⟨#[]⟩] ∧ Blk wa (w.heap.size + 1) 102 (rd A n cap a e k t s) ∧
    Blk wa (w.heap.size + 1 + 1) 1 #[.func (.func 67) #[.pointer (some ⟨w.heap.size + 1, 0, none⟩)] #[], .func (.func 68) #[.pointer (some ⟨w.heap.size + 1, 0, none⟩)] #[], .func (.func 69) #[.pointer (some ⟨w.heap.size + 1, 0, none⟩)] #[]] ∧ w.heap.size + 3 ≤ wa.heap.size
theorem blk_new_at (w : World) (t : TypeId) (cs : Array Value) (g : Nat) (h : g = w.heap.size) : Blk (w.alloc (.cells cs t)) g t cs := by subst h; exact Blk.new w t cs
theorem laid_mk (w : World) (A : Option Addr) (n cap a : Nat) : Laid w (((w.alloc (.cells #[.int .i64 0, .int .i64 0, .string ⟨#[]⟩] 36)).alloc (.cells (rd A n cap a 0 0 0 ⟨#[]⟩) 102)).alloc
    (.cells #[.func (.func 67) #[.pointer (some ⟨w.heap.size + 1, 0, none⟩)] #[], .func (.func 68) #[.pointer (some ⟨w.heap.size + 1, 0, none⟩)] #[], .func (.func 69) #[.pointer (some ⟨w.heap.size + 1, 0, none⟩)] #[]] 1)) A n cap a 0 0 0 ⟨#[]⟩ :=
  ⟨((Below.alloc (Below.refl w.heap.size w) (Nat.le_refl _) _).alloc (by simp) _).alloc (by simp; omega) _, ((Blk.new w _ _).alloc _).alloc _, (blk_new_at _ _ _ _ (by simp)).alloc _, blk_new_at _ _ _ _ (by simp), by simp⟩
theorem Laid.next {w wa w1 : World} {A : Option Addr} {n cap a e k t a' e' k' t' : Nat} {s s' : ByteArray} (h : Laid w wa A n cap a e k t s) (ho : Only wa w1 (· = w.heap.size + 1)) (hr : Blk w1 (w.heap.size + 1) 102 (rd A n cap a' e' k' t' s')) :
    Laid w w1 A n cap a' e' k' t' s' := by
  obtain ⟨h1, h2, h3, h4, h5⟩ := h
  exact ⟨h1.trans (ho.below (by omega) (fun i hi => by omega)), ho.blk h2 (by omega), hr, ho.blk h4 (by omega), Nat.le_trans h5 ho.size⟩
theorem rd_cells {w : World} {g : Nat} {t0 : TypeId} {A : Option Addr} {n cap : Nat} {a e k t : Int} {s : ByteArray} (h : Blk w g t0 (rd A n cap a e k t s)) :
    w.cell? ⟨g, 1, none⟩ = some (.int .i64 a) ∧ w.cell? ⟨g, 2, none⟩ = some (.int .i64 e) ∧ w.cell? ⟨g, 3, none⟩ = some (.int .u64 k) ∧ w.cell? ⟨g, 4, none⟩ = some (.int .u64 t) ∧ w.cell? ⟨g, 5, none⟩ = some (.string s) :=
  ⟨h.cell 1, h.cell 2, h.cell 3, h.cell 4, h.cell 5⟩
theorem zero_cells {w : World} {g : Nat} {t0 : TypeId} (h : Blk w g t0 #[.int .i64 0, .int .i64 0, .string ⟨#[]⟩]) :
    w.cell? ⟨g, 0, none⟩ = some (.int .i64 0) ∧ w.cell? ⟨g, 1, none⟩ = some (.int .i64 0) ∧ w.cell? ⟨g, 2, none⟩ = some (.string ⟨#[]⟩) ∧ w.frozen? ⟨g, 0, none⟩ = false ∧ w.frozen? ⟨g, 1, none⟩ = false ∧ w.frozen? ⟨g, 2, none⟩ = false :=
  ⟨h.cell 0, h.cell 1, h.cell 2, h.free 0, h.free 1, h.free 2⟩
theorem row_cells3 {w : World} {g : Nat} {t0 : TypeId} {x y z : Value} (h : Blk w g t0 #[x, y, z]) : w.cell? ⟨g, 0, none⟩ = some x ∧ w.cell? ⟨g, 1, none⟩ = some y ∧ w.cell? ⟨g, 2, none⟩ = some z := ⟨h.cell 0, h.cell 1, h.cell 2⟩

theorem verify_seg (b : List UInt8) (a x : Nat) (h1 : a ≤ x) (h2 : x + 4 ≤ b.length) :
    (Ent.verify (Bin.seg b a (x + 4))).2 = if Bin.seg b x (x + 4) = Ent.tail4 (Crc.sum (Bin.seg b a x)) then 0 else 38 := by
  rw [← Bin.seg_append b a x (x + 4) h1 (by omega)]
  unfold Ent.verify
  have h4 := Bin.seg_len b x (x + 4) (by omega) h2
  rw [if_neg (by rw [List.length_append]; omega), List.length_append, h4, show (Bin.seg b a x).length + (x + 4 - x) - 4 = (Bin.seg b a x).length by omega, List.take_left, List.drop_left]
  split <;> rfl

/-- what the walk behind the three reads is told. -/
structure Read (l : List UInt8) (a v1 v2 x3 : Nat) (s : List UInt8) : Prop where
  le : a ≤ x3
  len : x3 ≤ l.length
  k : v1 < 18446744073709551616
  t : v2 < 18446744073709551616
  short : l.length < x3 + 4 → Ent.dE l a = ⟨Ent.E0, 0, 4⟩
  sum : x3 + 4 ≤ l.length → Bin.seg l x3 (x3 + 4) ≠ Ent.tail4 (Crc.sum (Bin.seg l a x3)) → Ent.dE l a = ⟨Ent.E0, 0, 38⟩
  kind : x3 + 4 ≤ l.length → Bin.seg l x3 (x3 + 4) = Ent.tail4 (Crc.sum (Bin.seg l a x3)) → v1 < 1 ∨ 255 < v1 → Ent.dE l a = ⟨Ent.E0, 0, 2⟩
  time : x3 + 4 ≤ l.length → Bin.seg l x3 (x3 + 4) = Ent.tail4 (Crc.sum (Bin.seg l a x3)) → ¬ (v1 < 1 ∨ 255 < v1) → 3155932800 < v2 → Ent.dE l a = ⟨Ent.E0, 0, 10⟩
  ok : x3 + 4 ≤ l.length → Bin.seg l x3 (x3 + 4) = Ent.tail4 (Crc.sum (Bin.seg l a x3)) → ¬ (v1 < 1 ∨ 255 < v1) → ¬ 3155932800 < v2 → Ent.dE l a = ⟨⟨v1, v2, ⟨s.toArray⟩⟩, x3 + 4, 0⟩
theorem read_mk {l s : List UInt8} {a v1 x1 v2 x2 x3 : Nat} (h1 : Bin.dU l a = ⟨v1, x1, 0⟩) (h2 : Bin.dU l x1 = ⟨v2, x2, 0⟩) (h3 : Bin.dB l x2 65536 = ⟨s, x3, 0⟩) : Read l a v1 v2 x3 s := by
  have k1 := Bin.dU_ok l a (by rw [h1])
  have k2 := Bin.dU_ok l x1 (by rw [h2])
  have k3 := Bin.dB_ok l x2 65536 (by rw [h3])
  rw [h1] at k1; rw [h2] at k2; rw [h3] at k3
  simp only [Int.toNat_natCast] at k1 k2 k3
  obtain ⟨-, k1, -, b1, -⟩ := k1
  obtain ⟨-, k2, -, b2, -⟩ := k2
  obtain ⟨-, k3, b3, -⟩ := k3
  have e := Ent.dE_eq l a _ _ _ h1 rfl h2 rfl h3 rfl
  rw [Int.toNat_natCast] at e
  refine ⟨by omega, b3, by omega, by omega, ?_, ?_, ?_, ?_, ?_⟩
  all_goals (intros; rw [e]; unfold Ent.fin Ent.maxMoment)
  · rw [if_pos (by assumption)]
  · rw [if_neg (by simp only; omega), if_neg (by assumption)]
  · rw [if_neg (by simp only; omega), if_pos (by assumption), if_pos (by assumption)]
  · rw [if_neg (by simp only; omega), if_pos (by assumption), if_neg (by assumption), if_pos (by simp only; omega)]
  · rw [if_neg (by simp only; omega), if_pos (by assumption), if_neg (by assumption), if_neg (by simp only; omega)]

set_option maxRecDepth 100000 in
set_option maxHeartbeats 6400000 in
theorem decode_in (A : Option Addr) (cap : Nat) (l : List UInt8) (a : Nat) (w : World) (hl : l.length ≤ 1000000) (ha : a ≤ l.length) (hcap : l.length ≤ cap) (hA0 : Lie w w.heap.size A (bytes l)) :
    Calls Try.prog 45 #[.slice A l.length cap, .int .i64 a] w (GotD w (Ent.dE l a)) := by
  have hA := hide hA0
  clear hA0
  have HL0 := hide (laid_mk w A l.length cap a)
  unfold rd at HL0
  go_enter Try.func45, Try.ntmps45
  go_upto_region 5 with fail
  revert HL0
  generalize World.alloc _ _ = wa
  intro HL0
  have c0 := (row_cells3 HL0.out.2.2.2.1).1
  have HK0 := readkind_any A _ cap l a 0 0 0 ⟨#[]⟩ _ wa rfl hl (hA.out.on HL0.out.1) HL0.out.2.2.1
  generalize hg1' : Bin.dU l a = G1 at HK0
  obtain ⟨v1, x1, e1⟩ := G1
  have HK := hide HK0
  have hg1 := hide hg1'
  clear HK0 hg1'
  refine wp_loop_rounds 4 ?_
  rw [rounds_succ]
  go_upto_region 8 with fail
  refine Calls.mono HK.out ?_
  rintro e w1 ⟨rfl, B1, O1⟩
  have HL1 := hide (HL0.out.next O1 B1)
  clear B1 O1 HK c0 HL0
  try simp only at HL1
  obtain ⟨-, d2, -, -, -⟩ := rd_cells HL1.out.2.2.1
  by_cases h1 : e1 = 0
  case neg =>
    obtain ⟨z0, z1, z2, f0, f1, f2⟩ := zero_cells HL1.out.2.1
    have hne : ((e1 : Int) != 0) = true := by simp; omega
    have hbad : Hid (Ent.dE l a = ⟨Ent.E0, 0, e1⟩) := hide (by have := Ent.dE_bad1 l a (by rw [hg1.out]; exact h1); rw [hg1.out] at this; exact this)
    clear h1
    go_wp2_with fail
    go_region
    go_wp2_with fail
    exact bodyPost_ret (v := .tuple #[.agg #[.int .i64 0, .int .i64 0, .string ⟨#[]⟩], .int .i64 0, .int .i64 (e1 : Nat)]) (by simp [results, Try.results45, go_sem, z0, z1, z2]) rfl (gotd_no hbad.out (HL1.out.1.trans (((((Below.refl _ _).drew).setCell (p := ⟨w.heap.size, 0, none⟩) (Nat.le_refl _) _).setCell (p := ⟨w.heap.size, 1, none⟩) (Nat.le_refl _) _).setCell (p := ⟨w.heap.size, 2, none⟩) (Nat.le_refl _) _)))
  subst h1
  go_wp2_with fail
  clear d2
  have HT0 := readtime_any A _ cap l x1 0 v1 0 ⟨#[]⟩ _ w1 rfl hl (hA.out.on HL1.out.1) HL1.out.2.2.1
  generalize hg2' : Bin.dU l x1 = G2 at HT0
  obtain ⟨v2, x2, e2⟩ := G2
  have HK := hide HT0
  have hg2 := hide hg2'
  clear HT0 hg2'
  have c0 := (row_cells3 HL1.out.2.2.2.1).2.1
  rw [rounds_succ]
  go_upto_region 8 with fail
  refine Calls.mono HK.out ?_
  rintro e w2 ⟨rfl, B1, O1⟩
  have HL2 := hide (HL1.out.next O1 B1)
  clear B1 O1 HK c0 HL1
  try simp only at HL2
  obtain ⟨-, d2, -, -, -⟩ := rd_cells HL2.out.2.2.1
  by_cases h1 : e2 = 0
  case neg =>
    obtain ⟨z0, z1, z2, f0, f1, f2⟩ := zero_cells HL2.out.2.1
    have hne : ((e2 : Int) != 0) = true := by simp; omega
    have hbad : Hid (Ent.dE l a = ⟨Ent.E0, 0, e2⟩) := hide (by have := Ent.dE_bad2 l a _ hg1.out rfl (by simp only; rw [hg2.out]; exact h1); simp only at this; rw [hg2.out] at this; exact this)
    clear h1
    go_wp2_with fail
    go_region
    go_wp2_with fail
    exact bodyPost_ret (v := .tuple #[.agg #[.int .i64 0, .int .i64 0, .string ⟨#[]⟩], .int .i64 0, .int .i64 (e2 : Nat)]) (by simp [results, Try.results45, go_sem, z0, z1, z2]) rfl (gotd_no hbad.out (HL2.out.1.trans (((((Below.refl _ _).drew).setCell (p := ⟨w.heap.size, 0, none⟩) (Nat.le_refl _) _).setCell (p := ⟨w.heap.size, 1, none⟩) (Nat.le_refl _) _).setCell (p := ⟨w.heap.size, 2, none⟩) (Nat.le_refl _) _)))
  subst h1
  go_wp2_with fail
  clear d2
  have HT0 := readtext_any A _ cap l x2 0 v1 v2 ⟨#[]⟩ _ w2 rfl hl hcap (hA.out.on HL2.out.1) HL2.out.2.2.1
  generalize hg3' : Bin.dB l x2 65536 = G3 at HT0
  obtain ⟨v3, x3, e3⟩ := G3
  have HK := hide HT0
  have hg3 := hide hg3'
  clear HT0 hg3'
  have c0 := (row_cells3 HL2.out.2.2.2.1).2.2
  rw [rounds_succ]
  go_upto_region 8 with fail
  refine Calls.mono HK.out ?_
  rintro e w3 ⟨rfl, B1, O1⟩
  have HL3 := hide (HL2.out.next O1 B1)
  clear B1 O1 HK c0 HL2
  try simp only at HL3
  obtain ⟨d1, d2, -, -, -⟩ := rd_cells HL3.out.2.2.1
  by_cases h1 : e3 = 0
  case neg =>
    obtain ⟨z0, z1, z2, f0, f1, f2⟩ := zero_cells HL3.out.2.1
    have hne : ((e3 : Int) != 0) = true := by simp; omega
    have hbad : Hid (Ent.dE l a = ⟨Ent.E0, 0, e3⟩) := hide (by have := Ent.dE_bad3 l a _ _ hg1.out rfl hg2.out rfl (by simp only; rw [hg3.out]; exact h1); simp only at this; rw [hg3.out] at this; exact this)
    clear h1
    go_wp2_with fail
    go_region
    go_wp2_with fail
    exact bodyPost_ret (v := .tuple #[.agg #[.int .i64 0, .int .i64 0, .string ⟨#[]⟩], .int .i64 0, .int .i64 (e3 : Nat)]) (by simp [results, Try.results45, go_sem, z0, z1, z2]) rfl (gotd_no hbad.out (HL3.out.1.trans (((((Below.refl _ _).drew).setCell (p := ⟨w.heap.size, 0, none⟩) (Nat.le_refl _) _).setCell (p := ⟨w.heap.size, 1, none⟩) (Nat.le_refl _) _).setCell (p := ⟨w.heap.size, 2, none⟩) (Nat.le_refl _) _)))
  subst h1
  go_wp2_with fail
  clear d2
  have hR := hide (read_mk hg1.out hg2.out hg3.out)
  clear hg1 hg2 hg3
  have i1 := hR.out.le
  have i2 := hR.out.len
  have i3 := hR.out.k
  have i4 := hR.out.t
  rw [rounds_succ]
  go_upto_region 12 with fail
  clear d1
  by_cases c1 : l.length < x3 + 4
  · obtain ⟨z0, z1, z2, f0, f1, f2⟩ := zero_cells HL3.out.2.1
    have hbad := hide (hR.out.short c1)
    clear hA hR
    go_wp2_with fail
    exact bodyPost_ret (v := .tuple #[.agg #[.int .i64 0, .int .i64 0, .string ⟨#[]⟩], .int .i64 0, .int .i64 (4 : Nat)]) (by simp [results, Try.results45, go_sem, z0, z1, z2]) rfl (gotd_no hbad.out (HL3.out.1.trans ((((Below.refl _ _).setCell (p := ⟨w.heap.size, 0, none⟩) (Nat.le_refl _) _).setCell (p := ⟨w.heap.size, 1, none⟩) (Nat.le_refl _) _).setCell (p := ⟨w.heap.size, 2, none⟩) (Nat.le_refl _) _)))
  have c1' : x3 + 4 ≤ l.length := by omega
  obtain ⟨b, o, rfl, -, -⟩ := hA.out (by rw [bytes_len]; omega)
  have hV := verify_any (some ⟨b, o + a, none⟩) (x3 + 4 - a) (cap - a) (Bin.seg l a (x3 + 4)) w3 (by rw [Bin.seg_len l a (x3 + 4) (by omega) c1']) (by rw [Bin.seg_len l a (x3 + 4) (by omega) c1']; omega) (by omega) (lie_at (hA.out.on HL3.out.1) a (x3 + 4 - a))
  have hE := verify_seg l a x3 i1 c1'
  unfold VerGot at hV
  generalize Ent.verify (Bin.seg l a (x3 + 4)) = V at hV hE
  obtain ⟨V1, V2⟩ := V
  simp only at hV hE
  have hV := hide hV
  by_cases c2 : Bin.seg l x3 (x3 + 4) = Ent.tail4 (Crc.sum (Bin.seg l a x3))
  case neg =>
    rw [if_neg c2] at hE
    subst hE
    have hbad := hide (hR.out.sum c1' c2)
    clear hA hR c2
    go_wp2_with fail
    refine Calls.mono hV.out ?_
    rintro e w4 ⟨B4, c4, rfl, -, b4⟩
    have hb4 := HL3.out.1.trans (b4.mono HL3.out.1.size)
    obtain ⟨z0, z1, z2, f0, f1, f2⟩ := zero_cells (HL3.out.2.1.below b4 (by have := HL3.out.2.2.2.2; omega))
    clear hV
    go_wp2_with fail
    exact bodyPost_ret (v := .tuple #[.agg #[.int .i64 0, .int .i64 0, .string ⟨#[]⟩], .int .i64 0, .int .i64 (38 : Nat)]) (by simp [results, Try.results45, go_sem, z0, z1, z2]) rfl (gotd_no hbad.out (hb4.trans ((((Below.refl _ _).setCell (p := ⟨w.heap.size, 0, none⟩) (Nat.le_refl _) _).setCell (p := ⟨w.heap.size, 1, none⟩) (Nat.le_refl _) _).setCell (p := ⟨w.heap.size, 2, none⟩) (Nat.le_refl _) _)))
  rw [if_pos c2] at hE
  subst hE
  have c2' := hide c2
  clear c2 hA
  go_upto_region 15 with fail
  refine Calls.mono hV.out ?_
  rintro e w4 ⟨B4, c4, rfl, -, b4⟩
  clear hV
  go_upto_region 17 with fail
  have hb4 := hide (HL3.out.1.trans (b4.mono HL3.out.1.size))
  obtain ⟨z0, z1, z2, f0, f1, f2⟩ := zero_cells (HL3.out.2.1.below b4 (by have := HL3.out.2.2.2.2; omega))
  obtain ⟨-, -, d3, d4, d5⟩ := rd_cells (HL3.out.2.2.1.below b4 (by have := HL3.out.2.2.2.2; omega))
  clear HL3 b4
  by_cases k1 : v1 < 1
  · have hbad := hide (hR.out.kind c1' c2'.out (.inl k1))
    clear hR
    go_wp2_with fail
    exact bodyPost_ret (v := .tuple #[.agg #[.int .i64 0, .int .i64 0, .string ⟨#[]⟩], .int .i64 0, .int .i64 (2 : Nat)]) (by simp [results, Try.results45, go_sem, z0, z1, z2]) rfl (gotd_no hbad.out (hb4.out.trans ((((Below.refl _ _).setCell (p := ⟨w.heap.size, 0, none⟩) (Nat.le_refl _) _).setCell (p := ⟨w.heap.size, 1, none⟩) (Nat.le_refl _) _).setCell (p := ⟨w.heap.size, 2, none⟩) (Nat.le_refl _) _)))
  by_cases k2 : 255 < v1
  · have hbad := hide (hR.out.kind c1' c2'.out (.inr k2))
    clear hR
    go_wp2_with fail
    exact bodyPost_ret (v := .tuple #[.agg #[.int .i64 0, .int .i64 0, .string ⟨#[]⟩], .int .i64 0, .int .i64 (2 : Nat)]) (by simp [results, Try.results45, go_sem, z0, z1, z2]) rfl (gotd_no hbad.out (hb4.out.trans ((((Below.refl _ _).setCell (p := ⟨w.heap.size, 0, none⟩) (Nat.le_refl _) _).setCell (p := ⟨w.heap.size, 1, none⟩) (Nat.le_refl _) _).setCell (p := ⟨w.heap.size, 2, none⟩) (Nat.le_refl _) _)))
  by_cases k3 : 3155932800 < v2
  · have hbad := hide (hR.out.time c1' c2'.out (by omega) k3)
    clear hR
    go_wp2_with fail
    exact bodyPost_ret (v := .tuple #[.agg #[.int .i64 0, .int .i64 0, .string ⟨#[]⟩], .int .i64 0, .int .i64 (10 : Nat)]) (by simp [results, Try.results45, go_sem, z0, z1, z2]) rfl (gotd_no hbad.out (hb4.out.trans ((((Below.refl _ _).setCell (p := ⟨w.heap.size, 0, none⟩) (Nat.le_refl _) _).setCell (p := ⟨w.heap.size, 1, none⟩) (Nat.le_refl _) _).setCell (p := ⟨w.heap.size, 2, none⟩) (Nat.le_refl _) _)))
  have hok := hide (hR.out.ok c1' c2'.out (by omega) k3)
  clear hR
  go_upto_region 21 with fail
  have i0 : IntKind.i64.wrap (v1 : Int) = v1 := IntWalk.i64_in _ (by omega)
  have i0' : IntKind.i64.wrap (v2 : Int) = v2 := IntWalk.i64_in _ (by omega)
  go_region_held3 (fun w' => w'.cell? ⟨w.heap.size + 1, 3, none⟩ = some (.int .u64 v1) ∧ w'.cell? ⟨w.heap.size + 1, 4, none⟩ = some (.int .u64 v2) ∧ w'.cell? ⟨w.heap.size + 1, 5, none⟩ = some (.string ⟨v3.toArray⟩)) (go_keep) (fail)
  all_goals (
    go_wp2_with fail
    refine bodyPost_ret (v := .tuple #[.agg #[.int .i64 (v1 : Int), .int .i64 (v2 : Int), .string ⟨v3.toArray⟩], .int .i64 ((x3 : Int) + 4), .int .i64 0]) (by simp [results, Try.results45, go_sem, z0, z1, z2]) rfl (gotd_ok hok.out ?_)
    repeat (first | exact hb4.out | refine Below.drew ?_ | refine Below.setCell ?_ (by exact Nat.le_refl _) _))

theorem decode_any (A : Option Addr) (n cap : Nat) (l : List UInt8) (a : Int) (w : World) (hn : n = l.length) (hl : l.length ≤ 1000000) (hcap : n ≤ cap) (hA : Lie w w.heap.size A (bytes l)) :
    Calls Try.prog 45 #[.slice A n cap, .int .i64 a] w (GotD w (Ent.dE l a)) := by
  subst hn
  by_cases h : a < 0 ∨ (l.length : Int) < a
  · rw [dE_out l a h]
    exact decode_out A _ cap l a w rfl h
  · obtain ⟨k, rfl⟩ : ∃ k : Nat, a = (k : Int) := ⟨a.toNat, by omega⟩
    exact decode_in A cap l k w hl (by omega) hcap hA
end Go.Proofs.Ytjbdfmniiiaakaa
