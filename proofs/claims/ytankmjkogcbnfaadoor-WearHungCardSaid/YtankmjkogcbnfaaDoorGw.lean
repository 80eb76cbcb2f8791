/-
  thatchlaw07.WearHung answers true, whatever the skin, the season, the points and the rafter; what it is given reads afterwards as before.
  Conditions: fix.source and fix.end hold what the program's text lays (tied); goroutines that are only leaving may be left at the return.
-/
import Derived.Test.YtankmjkogcbnfaaDoorGf
import Derived.Test.YtankmjkogcbnfaaDoorGi
import Derived.Test.YtankmjkogcbnfaaDoorGb
import Derived.Test.YtankmjkogcbnfaaDoorGc
import Derived.Test.YtankmjkogcbnfaaDoorGj
import Derived.Test.YtankmjkogcbnfaaDoorTie
import Derived.Test.YtankmjkogcbnfaaDoorCards
import Derived.Stop.Joined
import Derived.Lay
namespace Go.Proofs.YtankmjkogcbnfaaDoor
open Go Go.SL
theorem w64_in {z : Int} (h : -9223372036854775808 ≤ z) (h' : z ≤ 9223372036854775807) : w64 z = z := wrap_in h h'
def dist (a b c d : Int) : Int := max (a - c) (c - a) + max (b - d) (d - b)
theorem far_in {a b c d : Int} (h : placedV ⟨a, b⟩ = true) (h' : placedV ⟨c, d⟩ = true) : farV a b c d = dist a b c d ∧ 0 ≤ dist a b c d ∧ dist a b c d ≤ 800 := by
  simp only [placedV, decide_eq_true_eq] at h h'
  unfold farV dist
  rw [w64_in (z := a - c) (by omega) (by omega), w64_in (z := c - a) (by omega) (by omega), w64_in (z := b - d) (by omega) (by omega), w64_in (z := d - b) (by omega) (by omega), w64_in (by omega) (by omega)]
  refine ⟨rfl, ?_, ?_⟩ <;> omega
theorem dist_mul {st D : Int} (h : 0 ≤ st ∧ st ≤ 1000) (hD : 0 ≤ D ∧ D ≤ 800) : 0 ≤ st * D ∧ st * D ≤ 800000 := by
  refine ⟨Int.mul_nonneg h.1 hD.1, ?_⟩
  have := Int.mul_le_mul h.2 hD.2 hD.1 (by omega)
  omega
structure MkOk (m : Mk) : Prop where
  pl : placedV ⟨m.u, m.v⟩ = true
  sp : 0 ≤ m.lo ∧ m.lo ≤ m.hi ∧ m.hi ≤ 2000
theorem step_in {st a b : Int} {r : Int × Int} {m : Mk} (h : 0 ≤ st ∧ st ≤ 1000) (hp : placedV ⟨a, b⟩ = true) (hm : MkOk m) :
    bStep st a b r m = (max r.1 (m.lo - st * dist a b m.u m.v), min r.2 (m.hi + st * dist a b m.u m.v)) := by
  obtain ⟨e1, e2, e3⟩ := far_in hp hm.pl
  have := dist_mul h ⟨e2, e3⟩
  have := hm.sp
  unfold bStep
  rw [e1, w64_in (z := st * dist a b m.u m.v) (by omega) (by omega), w64_in (by omega) (by omega), w64_in (by omega) (by omega)]
/-- The least and the greatest bound, by all marks. -/
theorem bounds_lo {st a b : Int} (h : 0 ≤ st ∧ st ≤ 1000) (hp : placedV ⟨a, b⟩ = true) : ∀ (lm : List Mk) (lo hi z : Int), (∀ m ∈ lm, MkOk m) → ((boundsV st lo hi lm a b).1 ≤ z ↔ lo ≤ z ∧ ∀ m ∈ lm, m.lo - st * dist a b m.u m.v ≤ z)
  | [], lo, hi, z, _ => by simp [boundsV]
  | m :: lm, lo, hi, z, hm => by
    have e : boundsV st lo hi (m :: lm) a b = boundsV st (max lo (m.lo - st * dist a b m.u m.v)) (min hi (m.hi + st * dist a b m.u m.v)) lm a b := by
      unfold boundsV
      rw [List.foldl_cons, step_in h hp (hm m List.mem_cons_self)]
    rw [e, bounds_lo h hp lm _ _ z (fun x hx => hm x (List.mem_cons_of_mem _ hx))]
    simp only [List.forall_mem_cons, Int.max_le, and_assoc]
theorem bounds_hi {st a b : Int} (h : 0 ≤ st ∧ st ≤ 1000) (hp : placedV ⟨a, b⟩ = true) : ∀ (lm : List Mk) (lo hi z : Int), (∀ m ∈ lm, MkOk m) → (z ≤ (boundsV st lo hi lm a b).2 ↔ z ≤ hi ∧ ∀ m ∈ lm, z ≤ m.hi + st * dist a b m.u m.v)
  | [], lo, hi, z, _ => by simp [boundsV]
  | m :: lm, lo, hi, z, hm => by
    have e : boundsV st lo hi (m :: lm) a b = boundsV st (max lo (m.lo - st * dist a b m.u m.v)) (min hi (m.hi + st * dist a b m.u m.v)) lm a b := by
      unfold boundsV
      rw [List.foldl_cons, step_in h hp (hm m List.mem_cons_self)]
    rw [e, bounds_hi h hp lm _ _ z (fun x hx => hm x (List.mem_cons_of_mem _ hx))]
    simp only [List.forall_mem_cons, Int.le_min, and_assoc]
/-- A skin that may be. -/
structure SkinOk (l : List Pt) (lh : List Bx) (st lo hi : Int) (lm : List Mk) : Prop where
  out : outlineE l = 0
  holes : ¬ lh.length > 6
  hole : ¬ lh.any (fun x => decide (x.a ≥ x.c ∨ x.b ≥ x.d)) = true
  sr : 0 ≤ st ∧ st ≤ 1000
  sp : 0 ≤ lo ∧ lo ≤ hi ∧ hi ≤ 2000
  ml : ¬ lm.length > 40
  has : ∀ m ∈ lm, hasV l lh ⟨m.u, m.v⟩ = true
  mks : ∀ m ∈ lm, MkOk m
  ord : ¬ badOrd lm = true
  fits : ∀ m ∈ lm, (boundsV st lo hi lm m.u m.v).1 ≤ (boundsV st lo hi lm m.u m.v).2
theorem has_placed {l : List Pt} {lh : List Bx} {p : Pt} (h : hasV l lh p = true) : placedV p = true := by
  unfold hasV at h
  simp only [Bool.and_eq_true] at h
  exact h.1.1
theorem marks_iff {l : List Pt} {lh : List Bx} : ∀ lm : List Mk, marksE l lh lm = 0 ↔ ∀ m ∈ lm, hasV l lh ⟨m.u, m.v⟩ = true ∧ (0 ≤ m.lo ∧ m.lo ≤ m.hi ∧ m.hi ≤ 2000)
  | [] => by simp [marksE]
  | m :: ms => by
    simp only [marksE, List.forall_mem_cons, ← marks_iff ms]
    split
    · rename_i h; rw [h]; simp
    · rename_i h
      have h : hasV l lh ⟨m.u, m.v⟩ = true := by simpa using h
      rw [h]
      split
      · rename_i h2
        simp only [spansV, decide_eq_false_iff_not] at h2
        simp [h2]
      · rename_i h2
        simp only [spansV, decide_eq_false_iff_not, Classical.not_not] at h2
        simp [h2]
theorem check_iff {l : List Pt} {lh : List Bx} {st lo hi : Int} {lm : List Mk} : checkV l lh st lo hi lm = 0 ↔ SkinOk l lh st lo hi lm := by
  have hs : ∀ {a b : Int}, spansV a b 2000 = false ↔ ¬ (0 ≤ a ∧ a ≤ b ∧ b ≤ 2000) := fun {a b} => by simp only [spansV, decide_eq_false_iff_not]
  have hc : lm.any (clash st lo hi lm) = true ↔ ¬ ∀ m ∈ lm, (boundsV st lo hi lm m.u m.v).1 ≤ (boundsV st lo hi lm m.u m.v).2 := by
    simp only [List.any_eq_true, clash, decide_eq_true_eq]
    constructor
    · rintro ⟨x, hx, h⟩ h2; have := h2 x hx; omega
    · intro h
      refine Classical.byContradiction fun h2 => h fun m hm => ?_
      refine Classical.byContradiction fun h3 => h2 ⟨m, hm, by omega⟩
  unfold checkV
  constructor
  · intro h
    split at h
    · rename_i k; exact absurd h k
    rename_i k1
    split at h
    · cases h
    rename_i k2
    split at h
    · cases h
    rename_i k3
    split at h
    · cases h
    rename_i k4
    split at h
    · cases h
    rename_i k5
    split at h
    · rename_i k; exact absurd h k
    rename_i k6
    split at h
    · cases h
    rename_i k7
    split at h
    · cases h
    rename_i k8
    rw [hs] at k4
    rw [hc, Classical.not_not] at k8
    have k6 := (marks_iff lm).1 (Classical.not_not.1 k6)
    exact ⟨Classical.not_not.1 k1, k2, k3, by omega, by omega, k5, fun m hm => (k6 m hm).1, fun m hm => ⟨has_placed (k6 m hm).1, (k6 m hm).2⟩, k7, k8⟩
  · intro h
    have k6 : ¬ marksE l lh lm ≠ 0 := Classical.not_not.2 ((marks_iff lm).2 fun m hm => ⟨h.has m hm, (h.mks m hm).sp⟩)
    have k4 : ¬ (¬ (0 ≤ st ∧ st ≤ 1000) ∨ spansV lo hi 2000 = false) := by
      rw [hs]; have := h.sr; have := h.sp; omega
    have k8 : ¬ lm.any (clash st lo hi lm) = true := by rw [hc]; exact Classical.not_not.2 h.fits
    rw [if_neg (Classical.not_not.2 h.out), if_neg h.holes, if_neg h.hole, if_neg k4, if_neg h.ml, if_neg k6, if_neg h.ord, if_neg k8]
theorem aft_in {x t : Int} (h : 0 ≤ x ∧ x ≤ 2000) (ht : 0 ≤ t ∧ t ≤ 2000) : aftL x t = max (x - t) 0 := by
  unfold aftL; rw [w64_in (by omega) (by omega)]
theorem aftM_ok {tl th : Int} (ht : 0 ≤ tl ∧ tl ≤ th ∧ th ≤ 2000) {m : Mk} (hm : MkOk m) : aftM tl th m = ⟨m.u, m.v, max (m.lo - th) 0, max (m.hi - tl) 0⟩ ∧ MkOk (aftM tl th m) := by
  have := hm.sp
  have e : aftM tl th m = ⟨m.u, m.v, max (m.lo - th) 0, max (m.hi - tl) 0⟩ := by
    unfold aftM; rw [aft_in (by omega) (by omega), aft_in (by omega) (by omega)]
  refine ⟨e, ?_⟩
  rw [e]
  exact ⟨hm.pl, by dsimp only; omega⟩
theorem badOrd_map {tl th : Int} {lm : List Mk} : badOrd (lm.map (aftM tl th)) = badOrd lm := by
  have hat : ∀ i, i < lm.length → (Mk.at (lm.map (aftM tl th)) i).u = (Mk.at lm i).u ∧ (Mk.at (lm.map (aftM tl th)) i).v = (Mk.at lm i).v := fun i hi => by
    simp [Mk.at, hi, aftM]
  unfold badOrd
  rw [List.length_map, Bool.eq_iff_iff]
  simp only [List.any_eq_true, List.mem_range]
  constructor
  · rintro ⟨i, hi, h⟩
    refine ⟨i, hi, ?_⟩
    rw [(hat i hi).1, (hat i hi).2, (hat (i - 1) (by omega)).1, (hat (i - 1) (by omega)).2] at h
    exact h
  · rintro ⟨i, hi, h⟩
    refine ⟨i, hi, ?_⟩
    rw [(hat i hi).1, (hat i hi).2, (hat (i - 1) (by omega)).1, (hat (i - 1) (by omega)).2]
    exact h
/-- What a season leaves of a skin. -/
theorem season_ok {l : List Pt} {lh : List Bx} {st lo hi tl th g : Int} {lm : List Mk} (k : SkinOk l lh st lo hi lm) (ht : 0 ≤ tl ∧ tl ≤ th ∧ th ≤ 2000) (hg : 0 ≤ g ∧ st + g ≤ 1000) :
    SkinOk l lh (st + g) (max (lo - th) 0) (max (hi - tl) 0) (lm.map (aftM tl th)) := by
  have hst := k.sr
  have hsp := k.sp
  have hst' : 0 ≤ st + g ∧ st + g ≤ 1000 := by omega
  have hmk' : ∀ m ∈ lm.map (aftM tl th), MkOk m := fun m hm => by
    obtain ⟨x, hx, rfl⟩ := List.mem_map.1 hm
    exact (aftM_ok ht (k.mks x hx)).2
  refine ⟨k.out, k.holes, k.hole, hst', by omega, by rw [List.length_map]; exact k.ml, fun m hm => ?_, hmk', by rw [badOrd_map]; exact k.ord, fun m hm => ?_⟩
  · obtain ⟨x, hx, rfl⟩ := List.mem_map.1 hm
    exact k.has x hx
  · obtain ⟨x, hx, rfl⟩ := List.mem_map.1 hm
    have hp : placedV ⟨x.u, x.v⟩ = true := (k.mks x hx).pl
    have hf := k.fits x hx
    have f1 := (bounds_lo hst hp lm lo hi _ k.mks).1 (Int.le_refl _)
    have f2 := (bounds_hi hst hp lm lo hi _ k.mks).1 (Int.le_refl _)
    show (boundsV (st + g) _ _ _ x.u x.v).1 ≤ (boundsV (st + g) _ _ _ x.u x.v).2
    have key : ∀ y ∈ lm, ∀ D, 0 ≤ D → D ≤ 800 → 0 ≤ st * D ∧ st * D ≤ (st + g) * D := fun y _ D h0 _ => by
      rw [Int.add_mul]
      have := Int.mul_nonneg hst.1 h0
      have := Int.mul_nonneg hg.1 h0
      omega
    rw [bounds_lo hst' hp _ _ _ _ hmk']
    refine ⟨?_, fun m1 h1 => ?_⟩
    · rw [bounds_hi hst' hp _ _ _ _ hmk']
      refine ⟨by omega, fun m2 h2 => ?_⟩
      obtain ⟨y, hy, rfl⟩ := List.mem_map.1 h2
      have e := (aftM_ok ht (k.mks y hy)).1
      rw [e]
      dsimp only
      have d := far_in hp (k.mks y hy).pl
      have q := key y hy _ d.2.1 d.2.2
      have f3 := f2.2 y hy
      have f4 := f1.1
      omega
    · obtain ⟨z, hz, rfl⟩ := List.mem_map.1 h1
      have e1 := (aftM_ok ht (k.mks z hz)).1
      have d1 := far_in hp (k.mks z hz).pl
      have q1 := key z hz _ d1.2.1 d1.2.2
      have f5 := f1.2 z hz
      rw [e1]
      dsimp only
      rw [bounds_hi hst' hp _ _ _ _ hmk']
      refine ⟨by have := f2.1; omega, fun m2 h2 => ?_⟩
      obtain ⟨y, hy, rfl⟩ := List.mem_map.1 h2
      have e := (aftM_ok ht (k.mks y hy)).1
      rw [e]
      dsimp only
      have d := far_in hp (k.mks y hy).pl
      have q := key y hy _ d.2.1 d.2.2
      have f3 := f2.2 y hy
      omega
theorem season_hi {l : List Pt} {lh : List Bx} {st lo hi tl th a b : Int} {lm : List Mk} (k : SkinOk l lh st lo hi lm) (ht : 0 ≤ tl ∧ tl ≤ th ∧ th ≤ 2000) (hp : placedV ⟨a, b⟩ = true) :
    (boundsV st (max (lo - th) 0) (max (hi - tl) 0) (lm.map (aftM tl th)) a b).2 ≤ (boundsV st lo hi lm a b).2 := by
  have hmk' : ∀ m ∈ lm.map (aftM tl th), MkOk m := fun m hm => by
    obtain ⟨x, hx, rfl⟩ := List.mem_map.1 hm
    exact (aftM_ok ht (k.mks x hx)).2
  have hsp := k.sp
  have f := (bounds_hi k.sr hp (lm.map (aftM tl th)) (max (lo - th) 0) (max (hi - tl) 0) _ hmk').1 (Int.le_refl _)
  rw [bounds_hi k.sr hp _ _ _ _ k.mks]
  refine ⟨by have := f.1; omega, fun m hm => ?_⟩
  have f2 := f.2 _ (List.mem_map.2 ⟨m, hm, rfl⟩)
  have e := (aftM_ok ht (k.mks m hm)).1
  rw [e] at f2
  dsimp only at f2
  have := (k.mks m hm).sp
  omega
theorem bounds_rng {l : List Pt} {lh : List Bx} {st lo hi a b : Int} {lm : List Mk} (k : SkinOk l lh st lo hi lm) (hp : placedV ⟨a, b⟩ = true) : 0 ≤ (boundsV st lo hi lm a b).2 ∧ (boundsV st lo hi lm a b).2 ≤ 2000 := by
  have hsp := k.sp
  have f := (bounds_hi k.sr hp _ _ _ _ k.mks).1 (Int.le_refl (boundsV st lo hi lm a b).2)
  refine ⟨?_, by have := f.1; omega⟩
  rw [bounds_hi k.sr hp _ _ _ _ k.mks]
  refine ⟨by omega, fun m hm => ?_⟩
  have d := far_in hp (k.mks m hm).pl
  have := (k.mks m hm).sp
  have := Int.mul_nonneg k.sr.1 d.2.1
  omega
/-- What the law asks of a season. -/
theorem season_law {l : List Pt} {lh : List Bx} {st lo hi tl th g : Int} {lm : List Mk} (hE : seasonE l lh st lo hi lm tl th g = 0) :
    checkV l lh st lo hi lm = 0 ∧ checkV l lh (w64 (st + g)) (aftL lo th) (aftL hi tl) (lm.map (aftM tl th)) = 0 ∧ 0 ≤ g ∧
      ∀ a b, hasV l lh ⟨a, b⟩ = true → (0 ≤ (boundsV st lo hi lm a b).2 ∧ (boundsV st lo hi lm a b).2 ≤ 2000) ∧ 0 ≤ (boundsV (w64 (st + g)) (aftL lo th) (aftL hi tl) (lm.map (aftM tl th)) a b).2 ∧ (g = 0 → (boundsV (w64 (st + g)) (aftL lo th) (aftL hi tl) (lm.map (aftM tl th)) a b).2 ≤ (boundsV st lo hi lm a b).2) := by
  unfold seasonE at hE
  split at hE
  · rename_i k; exact absurd hE k
  rename_i k1
  have k1 := Classical.not_not.1 k1
  split at hE
  · cases hE
  rename_i k2
  split at hE
  · cases hE
  rename_i k3
  have k := check_iff.1 k1
  have hst := k.sr
  have hsp := k.sp
  have ht : 0 ≤ tl ∧ tl ≤ th ∧ th ≤ 2000 := by
    simp only [spansV, decide_eq_false_iff_not, not_or, Classical.not_not] at k2
    exact k2.1
  have hg : 0 ≤ g ∧ g ≤ 1000 := by
    simp only [not_or, Classical.not_not] at k2
    exact k2.2
  have ew : w64 (st + g) = st + g := w64_in (by omega) (by omega)
  rw [ew] at k3 ⊢
  rw [aft_in (by omega) (by omega), aft_in (by omega) (by omega)]
  have k' := season_ok k ht (g := g) ⟨hg.1, by omega⟩
  refine ⟨k1, check_iff.2 k', hg.1, fun a b hh => ⟨bounds_rng k (has_placed hh), (bounds_rng k' (has_placed hh)).1, fun e => ?_⟩⟩
  subst e
  rw [Int.add_zero]
  exact season_hi k ht (has_placed hh)
end Go.Proofs.YtankmjkogcbnfaaDoor
/-
  Plain laws of the nets of thatchlaw07.WearHung: things that hang on one rafter.
-/
namespace Go.Proofs.YtankmjkogcbnfaaDoor
open Go Go.SL
def rafterB : List UInt8 := [114, 97, 102, 116, 101, 114]
def pName (i : Nat) : List UInt8 := [112, UInt8.ofNat (97 + i)]
/-- What hangs: its number, its weight before and behind. -/
abbrev Hung := Nat × Int × Int
def laOf (bw : Int) (ws : List Hung) : List Thing := ⟨rafterB, 0, bw, true⟩ :: ws.map fun x => ⟨pName x.1, x.2.1, 1000000, false⟩
def lbOf (bw : Int) (ws : List Hung) : List Thing := ⟨rafterB, 0, bw, true⟩ :: ws.map fun x => ⟨pName x.1, x.2.2, 1000000, false⟩
def tsOf (n : Nat) : List Tie := (List.range n).map fun (k : Nat) => ⟨(k : Int) + 1, 0, 1000000⟩
structure WsOk (i : Nat) (ws : List Hung) : Prop where
  len : ws.length ≤ i
  asc : ws.Pairwise fun x y => x.1 < y.1
  lt : ∀ x ∈ ws, x.1 < i
  rng : ∀ x ∈ ws, (0 ≤ x.2.1 ∧ x.2.1 ≤ 2000) ∧ 0 ≤ x.2.2 ∧ x.2.2 ≤ x.2.1
theorem WsOk.nil : WsOk 0 [] := ⟨Nat.le_refl _, .nil, by simp, by simp⟩
theorem WsOk.skip {i : Nat} {ws : List Hung} (k : WsOk i ws) : WsOk (i + 1) ws := ⟨Nat.le_succ_of_le k.len, k.asc, fun x hx => Nat.lt_succ_of_lt (k.lt x hx), k.rng⟩
theorem WsOk.snoc {i : Nat} {ws : List Hung} (k : WsOk i ws) {a b : Int} (h : (0 ≤ a ∧ a ≤ 2000) ∧ 0 ≤ b ∧ b ≤ a) : WsOk (i + 1) (ws ++ [(i, a, b)]) := by
  refine ⟨by simp; exact k.len, ?_, fun x hx => ?_, fun x hx => ?_⟩
  · rw [List.pairwise_append]
    refine ⟨k.asc, by simp, fun x hx y hy => ?_⟩
    obtain rfl : y = (i, a, b) := by simpa using hy
    exact k.lt x hx
  · rcases List.mem_append.1 hx with hx | hx
    · exact Nat.lt_succ_of_lt (k.lt x hx)
    · obtain rfl : x = (i, a, b) := by simpa using hx
      exact Nat.lt_succ_self i
  · rcases List.mem_append.1 hx with hx | hx
    · exact k.rng x hx
    · obtain rfl : x = (i, a, b) := by simpa using hx
      exact h
theorem la_snoc {bw : Int} {ws : List Hung} {i : Nat} {a b : Int} : laOf bw (ws ++ [(i, a, b)]) = laOf bw ws ++ [⟨pName i, a, 1000000, false⟩] := by simp [laOf]
theorem lb_snoc {bw : Int} {ws : List Hung} {i : Nat} {a b : Int} : lbOf bw (ws ++ [(i, a, b)]) = lbOf bw ws ++ [⟨pName i, b, 1000000, false⟩] := by simp [lbOf]
theorem ts_snoc {n : Nat} : tsOf (n + 1) = tsOf n ++ [⟨(n : Int) + 1, 0, 1000000⟩] := by simp [tsOf, List.range_succ]
theorem name_ok : ∀ i, i < 10 → nameV (pName i) = true ∧ (∀ u ∈ pName i, u.toNat < 128) ∧ pName i ≠ rafterB := by decide
theorem name_str : ∀ i : Nat, i < 10 → (⟨(List.toArray [112])⟩ : ByteArray) ++ Utf8.encode (IntKind.i32.wrap (97 + (i : Int))) = ⟨(pName i).toArray⟩ ∧ (⟨(List.toArray [112])⟩ : ByteArray).size + (Utf8.encode (IntKind.i32.wrap (97 + (i : Int)))).size ≤ 9223372036854775807 := by
  intro i hi
  have h : i = 0 ∨ i = 1 ∨ i = 2 ∨ i = 3 ∨ i = 4 ∨ i = 5 ∨ i = 6 ∨ i = 7 ∨ i = 8 ∨ i = 9 := by omega
  rcases h with rfl | rfl | rfl | rfl | rfl | rfl | rfl | rfl | rfl | rfl <;> exact ⟨by rfl, by decide⟩
theorem name_inj : ∀ i, i < 10 → ∀ j, j < 10 → pName i = pName j → i = j := by decide
theorem asc_name {i : Nat} (h : i < 10) : AscC (pName i) := ⟨(name_ok i h).2.1, by simp [pName]⟩
theorem asc_rafter : AscC rafterB := ⟨by decide, by decide⟩
theorem good_of {bw : Int} (hb : 0 ≤ bw ∧ bw ≤ 65535) {ws : List Hung} (k : WsOk 10 ws) (f : Hung → Int) (hf : ∀ x ∈ ws, 0 ≤ f x ∧ f x ≤ 100000) : GoodTh (⟨rafterB, 0, bw, true⟩ :: ws.map fun x => ⟨pName x.1, f x, 1000000, false⟩) := by
  have hl := k.len
  refine ⟨by simp; omega, ?_, ?_, ?_, ?_, ?_⟩
  · simp only [List.forall_mem_cons, List.forall_mem_map]
    exact ⟨by decide, fun x hx => (name_ok _ (k.lt x hx)).1⟩
  · simp only [List.forall_mem_cons, List.forall_mem_map]
    exact ⟨asc_rafter, fun x hx => asc_name (k.lt x hx)⟩
  · rw [List.map_cons, List.nodup_cons, List.map_map]
    refine ⟨fun hm => ?_, ?_⟩
    · obtain ⟨x, hx, e⟩ := List.mem_map.1 hm
      exact (name_ok _ (k.lt x hx)).2.2 e
    · unfold List.Nodup
      rw [List.pairwise_map]
      refine k.asc.imp_of_mem fun {a b} ha hb hab e => ?_
      have := name_inj _ (k.lt a ha) _ (k.lt b hb) e
      omega
  · simp only [List.forall_mem_cons, List.forall_mem_map]
    exact ⟨by decide, hf⟩
  · simp only [List.forall_mem_cons, List.forall_mem_map]
    exact ⟨⟨hb.1, by omega⟩, fun x hx => by decide⟩
theorem good_a {bw : Int} (hb : 0 ≤ bw ∧ bw ≤ 65535) {ws : List Hung} (k : WsOk 10 ws) : GoodTh (laOf bw ws) := good_of hb k (fun x => x.2.1) fun x hx => by have := k.rng x hx; omega
theorem good_b {bw : Int} (hb : 0 ≤ bw ∧ bw ≤ 65535) {ws : List Hung} (k : WsOk 10 ws) : GoodTh (lbOf bw ws) := good_of hb k (fun x => x.2.2) fun x hx => by have := k.rng x hx; omega
theorem good_star {l : List Thing} {n : Nat} (hn : n ≤ 60) (hl : l.length = n + 1) (hg : ∀ (i : Nat) x, 0 < i → l[i]? = some x → x.ground = false) : GoodTi l (tsOf n) := by
  have mem : ∀ t ∈ tsOf n, ∃ k : Nat, k < n ∧ t = ⟨(k : Int) + 1, 0, 1000000⟩ := fun t ht => by
    unfold tsOf at ht
    obtain ⟨k, hk, rfl⟩ := List.mem_map.1 ht
    exact ⟨k, by simpa using hk, rfl⟩
  refine ⟨by simp [tsOf]; omega, ?_, ?_, ?_, ?_, ?_, ?_⟩
  · intro t ht; obtain ⟨k, hk, rfl⟩ := mem t ht; dsimp only; omega
  · intro t ht; obtain ⟨k, hk, rfl⟩ := mem t ht; dsimp only; omega
  · intro t ht; obtain ⟨k, hk, rfl⟩ := mem t ht; dsimp only; omega
  · intro t ht; obtain ⟨k, hk, rfl⟩ := mem t ht; dsimp only; omega
  · intro t ht x hx
    obtain ⟨k, hk, rfl⟩ := mem t ht
    exact hg _ x (by dsimp only; omega) hx
  · intro t ht u hu
    obtain ⟨k, hk, rfl⟩ := mem t ht
    obtain ⟨j, hj, rfl⟩ := mem u hu
    dsimp only; omega
theorem ground_cons {x0 : Thing} {α : Type} {ws : List α} {f : α → Thing} (hf : ∀ a ∈ ws, (f a).ground = false) : ∀ (i : Nat) x, 0 < i → (x0 :: ws.map f)[i]? = some x → x.ground = false := fun i x hi hx => by
  cases i with
  | zero => omega
  | succ i =>
    rw [List.getElem?_cons_succ] at hx
    obtain ⟨a, ha, rfl⟩ := List.mem_map.1 (List.mem_of_getElem? hx)
    exact hf a ha
theorem goodt_a {bw : Int} {ws : List Hung} (k : WsOk 10 ws) : GoodTi (laOf bw ws) (tsOf ws.length) := good_star (by have := k.len; omega) (by simp [laOf]) (ground_cons fun _ _ => rfl)
theorem goodt_b {bw : Int} {ws : List Hung} (k : WsOk 10 ws) : GoodTi (lbOf bw ws) (tsOf ws.length) := good_star (by have := k.len; omega) (by simp [lbOf]) (ground_cons fun _ _ => rfl)
/-- Two lists that differ in their weights alone. -/
theorem sum_zip_map {α : Type} (f : Thing → Nat → Int) (g : α → Thing) : ∀ (ws : List α) (k : Nat), (((ws.map g).zipIdx k).map fun x => f x.1 x.2).sum = ((ws.zipIdx k).map fun x => f (g x.1) x.2).sum
  | [], _ => rfl
  | a :: ws, k => by simp only [List.map_cons, List.zipIdx_cons, List.sum_cons, sum_zip_map f g ws (k + 1)]
theorem hung_mono {bw : Int} {ws : List Hung} {i : Nat} (k : WsOk i ws) {ts : List Tie} (h : ∀ c, CutOk (laOf bw ws) c → cutW (laOf bw ws) c ≤ cutO (laOf bw ws) ts c) : ∀ c, CutOk (lbOf bw ws) c → cutW (lbOf bw ws) c ≤ cutO (lbOf bw ws) ts c := fun c hc => by
  have hca : CutOk (laOf bw ws) c := by
    refine ⟨by rw [hc.len]; simp [laOf, lbOf], fun i x hx => ?_⟩
    cases i with
    | zero =>
      have : x = ⟨rafterB, 0, bw, true⟩ := by simpa [laOf] using hx.symm
      subst this
      exact hc.val 0 ⟨rafterB, 0, bw, true⟩ (by simp [lbOf])
    | succ i =>
      simp only [laOf, List.getElem?_cons_succ, List.getElem?_map, Option.map_eq_some_iff] at hx
      obtain ⟨a, ha, rfl⟩ := hx
      exact hc.val (i + 1) ⟨pName a.1, a.2.2, 1000000, false⟩ (by simp [lbOf, ha])
  have h1 := h c hca
  have e1 : cutO (lbOf bw ws) ts c = cutO (laOf bw ws) ts c := by
    unfold cutO
    congr 1
    unfold laOf lbOf
    rw [List.zipIdx_cons, List.zipIdx_cons, List.map_cons, List.map_cons, List.sum_cons, List.sum_cons]
    rw [sum_zip_map (fun x i => if ct c i = 1 then x.bears else 0), sum_zip_map (fun x i => if ct c i = 1 then x.bears else 0)]
  have e2 : cutW (lbOf bw ws) c ≤ cutW (laOf bw ws) c := by
    unfold cutW laOf lbOf
    rw [List.zipIdx_cons, List.zipIdx_cons, List.map_cons, List.map_cons, List.sum_cons, List.sum_cons]
    rw [sum_zip_map (fun x i => if ct c i = 0 then 0 else x.weight), sum_zip_map (fun x i => if ct c i = 0 then 0 else x.weight)]
    refine Int.add_le_add (Int.le_refl _) (sum_mono _ _ _ fun x hx => ?_)
    have := k.rng x.1 (List.mem_of_getElem? (List.mem_zipIdx_iff_le_and_getElem?_sub.1 hx).2)
    dsimp only
    split <;> omega
  omega
end Go.Proofs.YtankmjkogcbnfaaDoor
/-
  thatchlaw07.WearHung.
-/
namespace Go.Proofs.YtankmjkogcbnfaaDoor
open Go Go.SL Go.Conc
theorem frw_hg {h h' : LH} {s : Value} {b : Nat} {o : Obj} (f : FrW h h' s) (g : HG h b o) (n : blkOf s ≠ some b) : HG h' b o := f.get _ _ g n
attribute [local irreducible] putE ofL Look Nth Ev HG Own SubL Wr Sgl EvL LH.upd WL OpS Any Con PopW Pop
theorem sgl_th (x : Thing) : Sgl [Thing.c x].flatten := by
  unfold Sgl; intro v hv; simp [Thing.c] at hv; rcases hv with rfl | rfl | rfl | rfl <;> rfl
theorem sgl_ti (x : Tie) : Sgl [Tie.c x].flatten := by
  unfold Sgl; intro v hv; simp [Tie.c] at hv; rcases hv with rfl | rfl | rfl <;> rfl
theorem c3 {l : List Pt} {lh : List Bx} {lm : List Mk} {pts : List Pt} {vo vh vm vp : Value} {st lo hi tl th g need bears : Int} {h : LH} (hgh : h.gh = []) [so : SingleC vo] [sh : SingleC vh] [sm : SingleC vm] [hvo : SlC h 2 vo (l.map Pt.c)] [hvh : SlC h 4 vh (lh.map Bx.cs)] [hvm : SlC h 4 vm (lm.map Mk.c)] [hvp : SlC h 2 vp (pts.map Pt.c)]
    (z0 : HG h 0 (.cells (List.toArray [.int .i64 (-1), .bool false, .bool false]) 206 (0, 0))) (z1 : HG h 1 (.cells (List.toArray [.int .i64 (-2), .bool false, .bool false]) 206 (0, 0))) (hb : 0 ≤ bears ∧ bears ≤ 65535) :
    ConB Tryd.prog 3 [.agg (List.toArray [vo, vh, .int .i64 st, .int .i64 lo, .int .i64 hi, vm]), .agg (List.toArray [.int .i64 tl, .int .i64 th, .int .i64 g, .int .i64 need]), vp, .int .u16 bears] h (fun r h' => Ext h h' ∧ r = .bool true) := by
  have hvo' : SlAt h 2 vo (l.map Pt.c) := ⟨hvo.out⟩
  have hvh' : SlAt h 4 vh (lh.map Bx.cs) := ⟨hvh.out⟩
  have hvm' : SlAt h 4 vm (lm.map Mk.c) := ⟨hvm.out⟩
  have hvp' : SlAt h 2 vp (pts.map Pt.c) := ⟨hvp.out⟩
  refine ConB.intro (m := 4) Tryd.func3 rfl Tryd.ntmps3 rfl (by decide) ?_
  intro S hM cs hc
  have hS := hM.reg
  cases hG : greatV l lh lm with
  | true =>
    have t0 : IsC (greatV l lh lm) true := ⟨hG⟩
    repeat (first | refine hS.seq ?_ | refine hS.regionW ?_ | refine W.pop ?_ | refine W.yes ?_ | refine W.no ?_ | refine W.box (fun _ _ => ?_) | refine W.alloc (fun _ _ => ?_) | refine W.store ?_ | refine W.bs (fun _ _ => ?_) | refine W.fn hS (fun _ _ => ?_) | refine WL.nil ?_ | refine R.condT hS ?_ | refine R.condF hS ?_ | refine hS.skip ?_ | refine hS.block ?_ | refine hS.inBlock ?_ | refine R.ret hS ?_ | refine R.fin hS ?_ | refine R.begin hS ?_ | refine R.endRound hS ?_ | refine R.retRound hS ?_ | refine R.retC hS ?_ | refine R.endRangeDone hS ?_ | refine R.endRangeRet hS ?_)
    exact hc _ _ _ _ _ inferInstance inferInstance ⟨Ext0.out, rfl⟩
  | false =>
    have t0 : IsC (greatV l lh lm) false := ⟨hG⟩
    have hlen : l.length ≤ 30 ∧ lh.length ≤ 30 ∧ lm.length ≤ 60 := by
      simp [greatV] at hG; omega
    by_cases hp : pts.length > 10
    · have t1 : IsC (decide ((pts.length : Int) > 10)) true := ⟨by simp; omega⟩
      repeat (first | refine hS.seq ?_ | refine hS.regionW ?_ | refine W.pop ?_ | refine W.yes ?_ | refine W.no ?_ | refine W.box (fun _ _ => ?_) | refine W.alloc (fun _ _ => ?_) | refine W.store ?_ | refine W.bs (fun _ _ => ?_) | refine W.fn hS (fun _ _ => ?_) | refine WL.nil ?_ | refine R.condT hS ?_ | refine R.condF hS ?_ | refine hS.skip ?_ | refine hS.block ?_ | refine hS.inBlock ?_ | refine R.ret hS ?_ | refine R.fin hS ?_ | refine R.begin hS ?_ | refine R.endRound hS ?_ | refine R.retRound hS ?_ | refine R.retC hS ?_ | refine R.endRangeDone hS ?_ | refine R.endRangeRet hS ?_)
      exact hc _ _ _ _ _ inferInstance inferInstance ⟨Ext0.out, rfl⟩
    have t1 : IsC (decide ((pts.length : Int) > 10)) false := ⟨by simp; omega⟩
    repeat (first | refine hS.seq ?_ | refine hS.regionW ?_ | refine W.pop ?_ | refine W.yes ?_ | refine W.no ?_ | refine W.box (fun _ _ => ?_) | refine W.alloc (fun _ _ => ?_) | refine W.store ?_ | refine W.bs (fun _ _ => ?_) | refine W.fn hS (fun _ _ => ?_) | refine WL.nil ?_ | refine R.condT hS ?_ | refine R.condF hS ?_ | refine hS.skip ?_ | refine hS.block ?_ | refine hS.inBlock ?_ | refine R.ret hS ?_ | refine R.fin hS ?_ | refine R.begin hS ?_ | refine R.endRound hS ?_ | refine R.retRound hS ?_ | refine R.retC hS ?_ | refine R.endRangeDone hS ?_ | refine R.endRangeRet hS ?_)
    rename_i q4 f4 q5 f5 h1 x1
    refine W.call hS (c9 (h := h1) (l := l) (lh := lh) (lm := lm) (vo := vo) (vh := vh) (vm := vm) (by omega) (by omega) (by omega)) (fun r2 h2 hr2 => ?_)
    obtain ⟨x2, hr2⟩ := hr2
    have x2c : ExtC h1 h2 := ⟨x2⟩
    rcases hr2 with ⟨hne, rfl⟩ | ⟨hE, vo', vh', vm', rfl, w1, w2, w3⟩
    · have t2 : IsC (seasonE l lh st lo hi lm tl th g != 0) true := ⟨by simpa using hne⟩
      repeat (first | refine hS.seq ?_ | refine hS.regionW ?_ | refine W.pop ?_ | refine W.yes ?_ | refine W.no ?_ | refine W.box (fun _ _ => ?_) | refine W.alloc (fun _ _ => ?_) | refine W.store ?_ | refine W.bs (fun _ _ => ?_) | refine W.fn hS (fun _ _ => ?_) | refine WL.nil ?_ | refine R.condT hS ?_ | refine R.condF hS ?_ | refine hS.skip ?_ | refine hS.block ?_ | refine hS.inBlock ?_ | refine R.ret hS ?_ | refine R.fin hS ?_ | refine R.begin hS ?_ | refine R.endRound hS ?_ | refine R.retRound hS ?_ | refine R.retC hS ?_ | refine R.endRangeDone hS ?_ | refine R.endRangeRet hS ?_)
      exact hc _ _ _ _ _ inferInstance inferInstance ⟨Ext0.out, rfl⟩
    have t2 : IsC ((0 : Int) != 0) false := ⟨rfl⟩
    have k1 : SlwC h2 2 vo' _ := ⟨w1⟩
    have k2 : SlwC h2 4 vh' _ := ⟨w2⟩
    have k3 : SlwC h2 4 vm' _ := ⟨w3⟩
    have s1 := slw_single w1
    have s2 := slw_single w2
    have s3 := slw_single w3
    have ebw : 0 ≤ IntKind.i64.wrap bears ∧ IntKind.i64.wrap bears ≤ 65535 := by rw [wrap_in (by omega) (by omega)]; exact hb
    repeat (first | refine hS.seq ?_ | refine hS.regionW ?_ | refine W.pop ?_ | refine W.yes ?_ | refine W.no ?_ | refine W.box (fun _ _ => ?_) | refine W.alloc (fun _ _ => ?_) | refine W.store ?_ | refine W.bs (fun _ _ => ?_) | refine W.fn hS (fun _ _ => ?_) | refine WL.nil ?_ | refine R.condT hS ?_ | refine R.condF hS ?_ | refine hS.skip ?_ | refine hS.block ?_ | refine hS.inBlock ?_ | refine R.ret hS ?_ | refine R.fin hS ?_ | refine R.begin hS ?_ | refine R.endRound hS ?_ | refine R.retRound hS ?_ | refine R.retC hS ?_ | refine R.endRangeDone hS ?_ | refine R.endRangeRet hS ?_)
    rename_i q9 f9 ba fa q11 f11 bb fb q12 f12
    generalize IntKind.i64.wrap bears = bw at *
    refine at_heap (fun h6 => ∃ h3, Ext h h3 ∧ h3.gh = [] ∧ HG h3 q4 (.cells (List.toArray [vo, vh, .int .i64 st, .int .i64 lo, .int .i64 hi, vm]) 30 (0, 0)) ∧ HG h3 q5 (.cells (List.toArray [.int .i64 tl, .int .i64 th, .int .i64 g, .int .i64 need]) 32 (0, 0)) ∧ HG h3 q9 (.cells (List.toArray [vo', vh', .int .i64 (w64 (st + g)), .int .i64 (aftL lo th), .int .i64 (aftL hi tl), vm']) 30 (0, 0)) ∧
      SlE h3 2 vo' (l.map Pt.c) ∧ SlE h3 4 vh' (lh.map Bx.cs) ∧ SlE h3 4 vm' ((lm.map (aftM tl th)).map Mk.c) ∧
      ∃ va vb vta vtb, St h3 h6 [(q12, .cells (List.toArray [vb, vtb]) 44 (0, 0)), (q11, .cells (List.toArray [va, vta]) 44 (0, 0))] [(4, vb, (lbOf bw []).map Thing.c), (4, va, (laOf bw []).map Thing.c), (3, vta, (tsOf 0).map Tie.c), (3, vtb, (tsOf 0).map Tie.c)]) ?_ (fun h6 hk => ?_)
    · refine ⟨(h2.upd q9 (.cells (List.toArray [.slice none 0 0, .slice none 0 0, .int .i64 0, .int .i64 0, .int .i64 0, .slice none 0 0]) 30 (0, 0))).upd q9 (.cells (List.toArray [vo', vh', .int .i64 (w64 (st + g)), .int .i64 (aftL lo th), .int .i64 (aftL hi tl), vm']) 30 (0, 0)), Ext0.out, gh_upd.trans (gh_upd.trans (x2.gh.trans (x1.out.gh.trans (gh_upd.trans (gh_upd.trans hgh))))), HGC.out, HGC.out, HGC.out, (SlwC.out (v := vo')).sle, (SlwC.out (v := vh')).sle, (SlwC.out (v := vm')).sle, .slice (some ⟨ba, 0, none⟩) 1 1, .slice (some ⟨bb, 0, none⟩) 1 1, .slice none 0 0, .slice none 0 0, ?_⟩
      have k0 := ((St.nil (h := (h2.upd q9 (.cells (List.toArray [.slice none 0 0, .slice none 0 0, .int .i64 0, .int .i64 0, .int .i64 0, .slice none 0 0]) 30 (0, 0))).upd q9 (.cells (List.toArray [vo', vh', .int .i64 (w64 (st + g)), .int .i64 (aftL lo th), .int .i64 (aftL hi tl), vm']) 30 (0, 0)))).slice (Ext.refl _) (sz := 3) new_nil slw_nil).slice (Ext.refl _) (sz := 3) new_nil slw_nil
      exact (((k0.slice Ext0.out (new_blk fa.out) (slw_new (sz := 4) (m := 1) (e := 40) (c := [.string ⟨(List.toArray [114, 97, 102, 116, 101, 114])⟩, .int .i64 0, .int .i64 bw, .bool true]) (xs := (laOf bw []).map Thing.c) (by simp [laOf, Thing.c]) (by simp [laOf]) (by simp [laOf, Thing.c, rafterB]))).block Ext0.out f11.out HGC.out OwnC.out).slice Ext0.out (new_blk fb.out) (slw_new (sz := 4) (m := 1) (e := 40) (c := [.string ⟨(List.toArray [114, 97, 102, 116, 101, 114])⟩, .int .i64 0, .int .i64 bw, .bool true]) (xs := (lbOf bw []).map Thing.c) (by simp [lbOf, Thing.c]) (by simp [lbOf]) (by simp [lbOf, Thing.c, rafterB]))).block Ext0.out f12.out HGC.out OwnC.out
    obtain ⟨h3, x3, gh3, g4, g5, g9, e1, e2, e3, va, vb, vta, vtb, k⟩ := hk
    have x3c : ExtC h h3 := ⟨x3⟩
    have i4 : HGC h3 q4 _ := ⟨g4⟩
    have i5 : HGC h3 q5 _ := ⟨g5⟩
    have i9 : HGC h3 q9 _ := ⟨g9⟩
    have j1 : SlAt h3 2 vo' _ := ⟨e1⟩
    have j2 : SlAt h3 4 vh' _ := ⟨e2⟩
    have j3 : SlAt h3 4 vm' _ := ⟨e3⟩
    have gn1 : GtC l.length 4611686018427387904 := ⟨by omega⟩
    have gn2 : GtC lh.length 4611686018427387904 := ⟨by omega⟩
    have gn3 : GtC lm.length 4611686018427387904 := ⟨by omega⟩
    have gn4 : GtC (lm.map (aftM tl th)).length 4611686018427387904 := ⟨by rw [List.length_map]; omega⟩
    clear k1 k2 k3 w1 w2 w3 x2c x1 x2 f4 f5 f9 fa fb f11 f12 t2 t1 t0
    obtain ⟨hc1, hc2, hg0, hlaw⟩ := season_law hE
    refine hS.loop ?_
    refine loop_ind (fun (i : Nat) => pts.length - i) (fun i E h' => i ≤ pts.length ∧ LookC E 2 vp ∧ LookC E 4 (.pointer (some ⟨q4, 0, none⟩)) ∧ LookC E 5 (.pointer (some ⟨q5, 0, none⟩)) ∧ LookC E 9 (.pointer (some ⟨q9, 0, none⟩)) ∧ LookC E 11 (.pointer (some ⟨q11, 0, none⟩)) ∧ LookC E 12 (.pointer (some ⟨q12, 0, none⟩)) ∧ LookC E 13 (.int .i64 (i : Nat)) ∧ ∃ va vb vta vtb ws, WsOk i ws ∧ St h3 h' [(q12, .cells (List.toArray [vb, vtb]) 44 (0, 0)), (q11, .cells (List.toArray [va, vta]) 44 (0, 0))] [(4, vb, (lbOf bw ws).map Thing.c), (4, va, (laOf bw ws).map Thing.c), (3, vta, (tsOf ws.length).map Tie.c), (3, vtb, (tsOf ws.length).map Tie.c)]) ?_ 0 _ _ ⟨Nat.zero_le _, inferInstance, inferInstance, inferInstance, inferInstance, inferInstance, inferInstance, inferInstance, va, vb, vta, vtb, [], WsOk.nil, k⟩
    clear k va vb vta vtb
    rintro i E h' ⟨hii, l2, l4, l5, l9, l11, l12, l13, va, vb, vta, vtb, ws, wk, k⟩ ih
    have xc : ExtC h3 h' := ⟨k.ex⟩
    by_cases hlt : i < pts.length
    · have t1 : IsC (decide ((i : Int) < (pts.length : Int))) true := ⟨by simp [hlt]⟩
      have nw : NoW ((i : Int) + 1) := NoW.of (by omega) (by omega)
      have ix0 : pts[i]? = some pts[i] := by simp [hlt]
      generalize pts[i] = p at ix0
      have ix : IxC pts i p := ⟨ix0⟩
      repeat (first | refine hS.seq ?_ | refine hS.regionW ?_ | refine W.pop ?_ | refine W.yes ?_ | refine W.no ?_ | refine W.box (fun _ _ => ?_) | refine W.alloc (fun _ _ => ?_) | refine W.store ?_ | refine W.bs (fun _ _ => ?_) | refine W.fn hS (fun _ _ => ?_) | refine WL.nil ?_ | refine R.condT hS ?_ | refine R.condF hS ?_ | refine hS.skip ?_ | refine hS.block ?_ | refine hS.inBlock ?_ | refine R.ret hS ?_ | refine R.fin hS ?_ | refine R.begin hS ?_ | refine R.endRound hS ?_ | refine R.retRound hS ?_ | refine R.retC hS ?_ | refine R.endRangeDone hS ?_ | refine R.endRangeRet hS ?_)
      refine hS.regionA mixed [10] ?_
      refine A.join (fun E' ds' hz => ds' = [] ∧ ∃ q, h'.get q = none ∧ Ext h' hz ∧ HG hz q (.cells (List.toArray [.int .i64 ((boundsE l lh st lo hi lm p.u p.v).1), .int .i64 ((boundsE l lh st lo hi lm p.u p.v).2.1)]) 27 (0, 0)) ∧ Own hz q ∧ LookC E' 14 (.pointer (some ⟨q, 0, none⟩)) ∧ LookC E' 15 (.int .i64 (boundsE l lh st lo hi lm p.u p.v).2.2) ∧ LookC E' 2 vp ∧ LookC E' 4 (.pointer (some ⟨q4, 0, none⟩)) ∧ LookC E' 5 (.pointer (some ⟨q5, 0, none⟩)) ∧ LookC E' 9 (.pointer (some ⟨q9, 0, none⟩)) ∧ LookC E' 11 (.pointer (some ⟨q11, 0, none⟩)) ∧ LookC E' 12 (.pointer (some ⟨q12, 0, none⟩)) ∧ LookC E' 13 (.int .i64 (i : Nat))) ?_ ?_
      · refine A.take 0 rfl (by kernel_rfl) (by intro _ _ e; cases e) ?_
        refine A.take 1 rfl (by kernel_rfl) (by intro _ _ e; cases e) ?_
        refine A.take 2 rfl (by kernel_rfl) (by intro _ _ e; cases e) ?_
        refine A.take 3 rfl (by kernel_rfl) (by intro _ _ e; cases e) ?_
        refine A.take 4 rfl (by kernel_rfl) (by intro _ _ e; cases e) ?_
        refine A.two 5 9 rfl rfl (by kernel_rfl) ?_ ?_
        · refine W.fn hS (fun _ _ => ?_)
          refine A.soft ?_
          refine A.take 6 rfl (by kernel_rfl) (by intro _ _ e; cases e) ?_
          refine A.take 7 rfl (by kernel_rfl) (by intro _ _ e; cases e) ?_
          refine A.takeM 8 rfl (by kernel_rfl) (by intro _ _ e; cases e) ?_
          refine A.one 9 rfl (by kernel_rfl) ?_
          refine W.alloc (fun q fq => ?_)
          refine A.soft ?_
          refine A.one 10 rfl (by kernel_rfl) ?_
          refine W.store ?_
          refine A.hard (by rfl) ?_
          refine A.take 11 rfl (by kernel_rfl) (by intro _ _ e; cases e) ?_
          refine Any.done (by kernel_rfl) ?_
          exact ⟨rfl, _, (inferInstance : Fresh0 h' _).out, Ext0.out, HGC.out, OwnC.out, inferInstance, inferInstance, inferInstance, inferInstance, inferInstance, inferInstance, inferInstance, inferInstance, inferInstance⟩
        · refine W.alloc (fun q fq => ?_)
          refine A.soft ?_
          refine A.one 5 rfl (by kernel_rfl) ?_
          refine W.fn hS (fun _ _ => ?_)
          refine A.soft ?_
          refine A.take 6 rfl (by kernel_rfl) (by intro _ _ e; cases e) ?_
          refine A.take 7 rfl (by kernel_rfl) (by intro _ _ e; cases e) ?_
          refine A.takeM 8 rfl (by kernel_rfl) (by intro _ _ e; cases e) ?_
          refine A.one 10 rfl (by kernel_rfl) ?_
          refine W.store ?_
          refine A.hard (by rfl) ?_
          refine A.take 11 rfl (by kernel_rfl) (by intro _ _ e; cases e) ?_
          refine Any.done (by kernel_rfl) ?_
          exact ⟨rfl, _, (inferInstance : Fresh0 h' _).out, Ext0.out, HGC.out, OwnC.out, inferInstance, inferInstance, inferInstance, inferInstance, inferInstance, inferInstance, inferInstance, inferInstance, inferInstance⟩
      rintro E1 ds1 h7 ⟨rfl, q14, f14, x7, g14, o14, l14, l15, l2, l4, l5, l9, l11, l12, l13⟩
      have k7 := k.block x7 f14 g14 o14
      have xc7 : ExtC h3 h7 := ⟨k7.ex⟩
      clear k xc
      repeat (first | refine hS.seq ?_ | refine hS.regionW ?_ | refine W.pop ?_ | refine W.yes ?_ | refine W.no ?_ | refine W.box (fun _ _ => ?_) | refine W.alloc (fun _ _ => ?_) | refine W.store ?_ | refine W.bs (fun _ _ => ?_) | refine W.fn hS (fun _ _ => ?_) | refine WL.nil ?_ | refine R.condT hS ?_ | refine R.condF hS ?_ | refine hS.skip ?_ | refine hS.block ?_ | refine hS.inBlock ?_ | refine R.ret hS ?_ | refine R.fin hS ?_ | refine R.begin hS ?_ | refine R.endRound hS ?_ | refine R.retRound hS ?_ | refine R.retC hS ?_ | refine R.endRangeDone hS ?_ | refine R.endRangeRet hS ?_)
      refine hS.regionA mixed [10] ?_
      refine A.join (fun E' ds' hz => ds' = [] ∧ ∃ q, h7.get q = none ∧ Ext h7 hz ∧ HG hz q (.cells (List.toArray [.int .i64 ((boundsE l lh (w64 (st + g)) (aftL lo th) (aftL hi tl) (lm.map (aftM tl th)) p.u p.v).1), .int .i64 ((boundsE l lh (w64 (st + g)) (aftL lo th) (aftL hi tl) (lm.map (aftM tl th)) p.u p.v).2.1)]) 27 (0, 0)) ∧ Own hz q ∧ LookC E' 16 (.pointer (some ⟨q, 0, none⟩)) ∧ LookC E' 17 (.int .i64 (boundsE l lh (w64 (st + g)) (aftL lo th) (aftL hi tl) (lm.map (aftM tl th)) p.u p.v).2.2) ∧ LookC E' 2 vp ∧ LookC E' 4 (.pointer (some ⟨q4, 0, none⟩)) ∧ LookC E' 5 (.pointer (some ⟨q5, 0, none⟩)) ∧ LookC E' 9 (.pointer (some ⟨q9, 0, none⟩)) ∧ LookC E' 11 (.pointer (some ⟨q11, 0, none⟩)) ∧ LookC E' 12 (.pointer (some ⟨q12, 0, none⟩)) ∧ LookC E' 13 (.int .i64 (i : Nat)) ∧ LookC E' 14 (.pointer (some ⟨q14, 0, none⟩)) ∧ LookC E' 15 (.int .i64 (boundsE l lh st lo hi lm p.u p.v).2.2)) ?_ ?_
      · refine A.take 0 rfl (by kernel_rfl) (by intro _ _ e; cases e) ?_
        refine A.take 1 rfl (by kernel_rfl) (by intro _ _ e; cases e) ?_
        refine A.take 2 rfl (by kernel_rfl) (by intro _ _ e; cases e) ?_
        refine A.take 3 rfl (by kernel_rfl) (by intro _ _ e; cases e) ?_
        refine A.take 4 rfl (by kernel_rfl) (by intro _ _ e; cases e) ?_
        refine A.two 5 9 rfl rfl (by kernel_rfl) ?_ ?_
        · refine W.fn hS (fun _ _ => ?_)
          refine A.soft ?_
          refine A.take 6 rfl (by kernel_rfl) (by intro _ _ e; cases e) ?_
          refine A.take 7 rfl (by kernel_rfl) (by intro _ _ e; cases e) ?_
          refine A.takeM 8 rfl (by kernel_rfl) (by intro _ _ e; cases e) ?_
          refine A.one 9 rfl (by kernel_rfl) ?_
          refine W.alloc (fun q fq => ?_)
          refine A.soft ?_
          refine A.one 10 rfl (by kernel_rfl) ?_
          refine W.store ?_
          refine A.hard (by rfl) ?_
          refine A.take 11 rfl (by kernel_rfl) (by intro _ _ e; cases e) ?_
          refine Any.done (by kernel_rfl) ?_
          exact ⟨rfl, _, (inferInstance : Fresh0 h7 _).out, Ext0.out, HGC.out, OwnC.out, inferInstance, inferInstance, inferInstance, inferInstance, inferInstance, inferInstance, inferInstance, inferInstance, inferInstance, inferInstance, inferInstance⟩
        · refine W.alloc (fun q fq => ?_)
          refine A.soft ?_
          refine A.one 5 rfl (by kernel_rfl) ?_
          refine W.fn hS (fun _ _ => ?_)
          refine A.soft ?_
          refine A.take 6 rfl (by kernel_rfl) (by intro _ _ e; cases e) ?_
          refine A.take 7 rfl (by kernel_rfl) (by intro _ _ e; cases e) ?_
          refine A.takeM 8 rfl (by kernel_rfl) (by intro _ _ e; cases e) ?_
          refine A.one 10 rfl (by kernel_rfl) ?_
          refine W.store ?_
          refine A.hard (by rfl) ?_
          refine A.take 11 rfl (by kernel_rfl) (by intro _ _ e; cases e) ?_
          refine Any.done (by kernel_rfl) ?_
          exact ⟨rfl, _, (inferInstance : Fresh0 h7 _).out, Ext0.out, HGC.out, OwnC.out, inferInstance, inferInstance, inferInstance, inferInstance, inferInstance, inferInstance, inferInstance, inferInstance, inferInstance, inferInstance, inferInstance⟩
      rintro E2 ds2 h8 ⟨rfl, q16, f16, x8, g16, o16, l16, l17, l2', l4', l5', l9', l11', l12', l13', l14', l15'⟩
      have k8 := k7.block x8 f16 g16 o16
      have xc8 : ExtC h3 h8 := ⟨k8.ex⟩
      clear xc7 k7 l2 l4 l5 l9 l11 l12 l13 l14 l15 x7 x8 g14 o14
      have i16 : HGC h8 q16 (.cells (List.toArray [.int .i64 (boundsE l lh (w64 (st + g)) (aftL lo th) (aftL hi tl) (lm.map (aftM tl th)) p.u p.v).1, .int .i64 (boundsE l lh (w64 (st + g)) (aftL lo th) (aftL hi tl) (lm.map (aftM tl th)) p.u p.v).2.1]) 27 (0, 0)) := ⟨(k8.hg (_, _) (List.mem_cons_self)).1⟩
      have i14 : HGC h8 q14 (.cells (List.toArray [.int .i64 (boundsE l lh st lo hi lm p.u p.v).1, .int .i64 (boundsE l lh st lo hi lm p.u p.v).2.1]) 27 (0, 0)) := ⟨(k8.hg (_, _) (.tail _ List.mem_cons_self)).1⟩
      have i12 : HGC h8 q12 (.cells (List.toArray [vb, vtb]) 44 (0, 0)) := ⟨(k8.hg (_, _) (.tail _ (.tail _ List.mem_cons_self))).1⟩
      have i11 : HGC h8 q11 (.cells (List.toArray [va, vta]) 44 (0, 0)) := ⟨(k8.hg (_, _) (.tail _ (.tail _ (.tail _ List.mem_cons_self)))).1⟩
      cases hv : hasV l lh ⟨p.u, p.v⟩ with
      | false =>
        have eB1 : boundsE l lh st lo hi lm p.u p.v = (0, 0, 7) := by unfold boundsE; rw [if_neg (by rw [hc1]; simp), if_pos hv]
        have eB2 : boundsE l lh (w64 (st + g)) (aftL lo th) (aftL hi tl) (lm.map (aftM tl th)) p.u p.v = (0, 0, 7) := by unfold boundsE; rw [if_neg (by rw [hc2]; simp), if_pos hv]
        rw [eB1] at l15' k8 i14
        rw [eB2] at l17 k8 i16
        have t2 : IsC ((7 : Int) != 7) false := ⟨rfl⟩
        have t3 : IsC ((7 : Int) != 0) true := ⟨rfl⟩
        repeat (first | refine hS.seq ?_ | refine hS.regionW ?_ | refine W.pop ?_ | refine W.yes ?_ | refine W.no ?_ | refine W.box (fun _ _ => ?_) | refine W.alloc (fun _ _ => ?_) | refine W.store ?_ | refine W.bs (fun _ _ => ?_) | refine W.fn hS (fun _ _ => ?_) | refine WL.nil ?_ | refine R.condT hS ?_ | refine R.condF hS ?_ | refine hS.skip ?_ | refine hS.block ?_ | refine hS.inBlock ?_ | refine R.ret hS ?_ | refine R.fin hS ?_ | refine R.begin hS ?_ | refine R.endRound hS ?_ | refine R.retRound hS ?_ | refine R.retC hS ?_ | refine R.endRangeDone hS ?_ | refine R.endRangeRet hS ?_)
        refine hS.exit rfl ?_
        repeat (first | refine hS.seq ?_ | refine hS.regionW ?_ | refine W.pop ?_ | refine W.yes ?_ | refine W.no ?_ | refine W.box (fun _ _ => ?_) | refine W.alloc (fun _ _ => ?_) | refine W.store ?_ | refine W.bs (fun _ _ => ?_) | refine W.fn hS (fun _ _ => ?_) | refine WL.nil ?_ | refine R.condT hS ?_ | refine R.condF hS ?_ | refine hS.skip ?_ | refine hS.block ?_ | refine hS.inBlock ?_ | refine R.ret hS ?_ | refine R.fin hS ?_ | refine R.begin hS ?_ | refine R.endRound hS ?_ | refine R.retRound hS ?_ | refine R.retC hS ?_ | refine R.endRangeDone hS ?_ | refine R.endRangeRet hS ?_)
        refine hS.inLoop ?_
        exact ih (i + 1) _ _ (by omega) ⟨hlt, inferInstance, inferInstance, inferInstance, inferInstance, inferInstance, inferInstance, by have e : ((i + 1 : Nat) : Int) = (i : Int) + 1 := (by omega); rw [e]; infer_instance, va, vb, vta, vtb, ws, wk.skip, k8.less (.cons _ (.cons _ (List.Sublist.refl _)))⟩
      | true =>
        have eB1 : boundsE l lh st lo hi lm p.u p.v = ((boundsV st lo hi lm p.u p.v).1, (boundsV st lo hi lm p.u p.v).2, 0) := by unfold boundsE; rw [if_neg (by rw [hc1]; simp), if_neg (by rw [hv]; simp)]
        have eB2 : boundsE l lh (w64 (st + g)) (aftL lo th) (aftL hi tl) (lm.map (aftM tl th)) p.u p.v = ((boundsV (w64 (st + g)) (aftL lo th) (aftL hi tl) (lm.map (aftM tl th)) p.u p.v).1, (boundsV (w64 (st + g)) (aftL lo th) (aftL hi tl) (lm.map (aftM tl th)) p.u p.v).2, 0) := by unfold boundsE; rw [if_neg (by rw [hc2]; simp), if_neg (by rw [hv]; simp)]
        have hl := hlaw p.u p.v hv
        rw [eB1] at l15' k8 i14
        rw [eB2] at l17 k8 i16
        generalize boundsV st lo hi lm p.u p.v = A at *
        generalize boundsV (w64 (st + g)) (aftL lo th) (aftL hi tl) (lm.map (aftM tl th)) p.u p.v = B at *
        obtain ⟨a0, a⟩ := A
        obtain ⟨b0, b⟩ := B
        dsimp only at l15' l17 k8 i14 i16 hl
        have t2 : IsC ((0 : Int) != 0) false := ⟨rfl⟩
        by_cases hq : b > a
        · have hg1 : g > 0 := by
            by_cases e : g = 0
            · have := hl.2.2 e; omega
            · omega
          have t3 : IsC (decide (b > a)) true := ⟨decide_eq_true hq⟩
          have t4 : IsC (decide (g > 0)) true := ⟨decide_eq_true hg1⟩
          repeat (first | refine hS.seq ?_ | refine hS.regionW ?_ | refine W.pop ?_ | refine W.yes ?_ | refine W.no ?_ | refine W.box (fun _ _ => ?_) | refine W.alloc (fun _ _ => ?_) | refine W.store ?_ | refine W.bs (fun _ _ => ?_) | refine W.fn hS (fun _ _ => ?_) | refine WL.nil ?_ | refine R.condT hS ?_ | refine R.condF hS ?_ | refine hS.skip ?_ | refine hS.block ?_ | refine hS.inBlock ?_ | refine R.ret hS ?_ | refine R.fin hS ?_ | refine R.begin hS ?_ | refine R.endRound hS ?_ | refine R.retRound hS ?_ | refine R.retC hS ?_ | refine R.endRangeDone hS ?_ | refine R.endRangeRet hS ?_)
          exact hc _ _ _ _ _ inferInstance inferInstance ⟨Ext0.out, rfl⟩
        · have t3 : IsC (decide (b > a)) false := ⟨decide_eq_false hq⟩
          have t4 : IsC (decide (a > 2000)) false := ⟨decide_eq_false (by omega)⟩
          have nw2 : NoW (97 + (i : Int)) := NoW.of (by omega) (by omega)
          have hi10 : i < 10 := by omega
          obtain ⟨hn1, hn2⟩ := name_str i hi10
          have fit : FitC ⟨(List.toArray [112])⟩ (Utf8.encode (IntKind.i32.wrap (97 + (i : Int)))) := ⟨hn2⟩
          obtain ⟨⟨n1, n2, n3⟩, ⟨n4, n5⟩, n6⟩ : (q16 ≠ q14 ∧ q16 ≠ q12 ∧ q16 ≠ q11) ∧ (q14 ≠ q12 ∧ q14 ≠ q11) ∧ q12 ≠ q11 := by simpa [and_assoc] using k8.qd
          have ne1 : NeB q16 q11 := ⟨n3⟩
          have ne2 : NeB q12 q11 := ⟨n6⟩
          have ne3 : NeB q11 q12 := ⟨n6.symm⟩
          have ne4 : NeB q16 q12 := ⟨n2⟩
          repeat (first | refine hS.seq ?_ | refine hS.regionW ?_ | refine W.pop ?_ | refine W.yes ?_ | refine W.no ?_ | refine W.box (fun _ _ => ?_) | refine W.alloc (fun _ _ => ?_) | refine W.store ?_ | refine W.bs (fun _ _ => ?_) | refine W.fn hS (fun _ _ => ?_) | refine WL.nil ?_ | refine R.condT hS ?_ | refine R.condF hS ?_ | refine hS.skip ?_ | refine hS.block ?_ | refine hS.inBlock ?_ | refine R.ret hS ?_ | refine R.fin hS ?_ | refine R.begin hS ?_ | refine R.endRound hS ?_ | refine R.retRound hS ?_ | refine R.retC hS ?_ | refine R.endRangeDone hS ?_ | refine R.endRangeRet hS ?_)
          rename_i b1 fb1
          rw [hn1]
          refine at_heapW (fun hz => St h3 hz [(q16, .cells (List.toArray [.int .i64 b0, .int .i64 b]) 27 (0, 0)), (q14, .cells (List.toArray [.int .i64 a0, .int .i64 a]) 27 (0, 0)), (q12, .cells (List.toArray [vb, vtb]) 44 (0, 0)), (q11, .cells (List.toArray [va, vta]) 44 (0, 0))] [(4, vb, (lbOf bw ws).map Thing.c), (4, va, (laOf bw ws).map Thing.c), (3, vta, (tsOf ws.length).map Tie.c), (3, vtb, (tsOf ws.length).map Tie.c)] ∧ HG hz b1 (.cells (List.toArray [.string ⟨(pName i).toArray⟩, .int .i64 a, .int .i64 1000000, .bool false]) 40 (0, 0))) ⟨k8.ext' Ext0.out, HGC.out⟩ (fun h9 hk9 => ?_)
          obtain ⟨k9, gb1⟩ := hk9
          clear k8 i16 i14 i12 i11 xc8
          refine W.append (xs := (laOf bw ws).map Thing.c) (ys := [Thing.c ⟨pName i, a, 1000000, false⟩]) (by_ := 40) (by kernel_rfl) (k9.sl (_, _, _) (.tail _ List.mem_cons_self)).1 (slOne (n := 4) gb1 rfl) (sgl_th _) (by have := wk.len; simp [laOf]; omega) (by have := wk.len; simp [laOf]; omega) (fun va' h10 w10 fr10 hb10 => ?_)
          have w10' : SlW h10 4 va' ((laOf bw (ws ++ [(i, a, b)])).map Thing.c) := by rw [la_snoc, List.map_append]; exact w10
          have k10 := St.app [(4, vb, (lbOf bw ws).map Thing.c)] k9 fr10 w10' hb10
          have s10 := slw_single w10
          clear k9 gb1 fr10 hb10 w10
          have xc10 : ExtC h3 h10 := ⟨k10.ex⟩
          have uq16 : HGC h10 q16 (.cells (List.toArray [.int .i64 b0, .int .i64 b]) 27 (0, 0)) := ⟨(k10.hg (_, _) (List.mem_cons_self)).1⟩
          have uoq16 : OwnC h10 q16 := ⟨(k10.hg (_, _) (List.mem_cons_self)).2.1⟩
          have uq12 : HGC h10 q12 (.cells (List.toArray [vb, vtb]) 44 (0, 0)) := ⟨(k10.hg (_, _) (.tail _ (.tail _ List.mem_cons_self))).1⟩
          have uoq12 : OwnC h10 q12 := ⟨(k10.hg (_, _) (.tail _ (.tail _ List.mem_cons_self))).2.1⟩
          have uq11 : HGC h10 q11 (.cells (List.toArray [va, vta]) 44 (0, 0)) := ⟨(k10.hg (_, _) (.tail _ (.tail _ (.tail _ List.mem_cons_self)))).1⟩
          have uoq11 : OwnC h10 q11 := ⟨(k10.hg (_, _) (.tail _ (.tail _ (.tail _ List.mem_cons_self)))).2.1⟩
          repeat (first | refine hS.seq ?_ | refine hS.regionW ?_ | refine W.pop ?_ | refine W.yes ?_ | refine W.no ?_ | refine W.box (fun _ _ => ?_) | refine W.alloc (fun _ _ => ?_) | refine W.store ?_ | refine W.bs (fun _ _ => ?_) | refine W.fn hS (fun _ _ => ?_) | refine WL.nil ?_ | refine R.condT hS ?_ | refine R.condF hS ?_ | refine hS.skip ?_ | refine hS.block ?_ | refine hS.inBlock ?_ | refine R.ret hS ?_ | refine R.fin hS ?_ | refine R.begin hS ?_ | refine R.endRound hS ?_ | refine R.retRound hS ?_ | refine R.retC hS ?_ | refine R.endRangeDone hS ?_ | refine R.endRangeRet hS ?_)
          rename_i b2 fb2
          refine at_heapW (fun hz => St h3 hz [(q16, .cells (List.toArray [.int .i64 b0, .int .i64 b]) 27 (0, 0)), (q14, .cells (List.toArray [.int .i64 a0, .int .i64 a]) 27 (0, 0)), (q12, .cells (List.toArray [vb, vtb]) 44 (0, 0)), (q11, .cells (List.toArray [va', vta]) 44 (0, 0))] [(4, vb, (lbOf bw ws).map Thing.c), (4, va', (laOf bw (ws ++ [(i, a, b)])).map Thing.c), (3, vta, (tsOf ws.length).map Tie.c), (3, vtb, (tsOf ws.length).map Tie.c)] ∧ HG hz b2 (.cells (List.toArray [.string ⟨(pName i).toArray⟩, .int .i64 b, .int .i64 1000000, .bool false]) 40 (0, 0))) ⟨(St.upd [(q16, .cells (List.toArray [.int .i64 b0, .int .i64 b]) 27 (0, 0)), (q14, .cells (List.toArray [.int .i64 a0, .int .i64 a]) 27 (0, 0)), (q12, .cells (List.toArray [vb, vtb]) 44 (0, 0))] k10).ext' Ext0.out, HGC.out⟩ (fun h11 hk11 => ?_)
          obtain ⟨k11, gb2⟩ := hk11
          clear k10 uq16 uq12 uq11 uoq16 uoq12 uoq11 xc10
          refine W.append (xs := (lbOf bw ws).map Thing.c) (ys := [Thing.c ⟨pName i, b, 1000000, false⟩]) (by_ := 40) (by kernel_rfl) (k11.sl (_, _, _) (List.mem_cons_self)).1 (slOne (n := 4) gb2 rfl) (sgl_th _) (by have := wk.len; simp [lbOf]; omega) (by have := wk.len; simp [lbOf]; omega) (fun vb' h13 w13 fr13 hb13 => ?_)
          have w13' : SlW h13 4 vb' ((lbOf bw (ws ++ [(i, a, b)])).map Thing.c) := by rw [lb_snoc, List.map_append]; exact w13
          have k13 := St.app [] k11 fr13 w13' hb13
          have s13 := slw_single w13
          clear k11 gb2 fr13 hb13 w13
          have xc13 : ExtC h3 h13 := ⟨k13.ex⟩
          have uq12 : HGC h13 q12 (.cells (List.toArray [vb, vtb]) 44 (0, 0)) := ⟨(k13.hg (_, _) (.tail _ (.tail _ List.mem_cons_self))).1⟩
          have uoq12 : OwnC h13 q12 := ⟨(k13.hg (_, _) (.tail _ (.tail _ List.mem_cons_self))).2.1⟩
          have uq11 : HGC h13 q11 (.cells (List.toArray [va', vta]) 44 (0, 0)) := ⟨(k13.hg (_, _) (.tail _ (.tail _ (.tail _ List.mem_cons_self)))).1⟩
          have uoq11 : OwnC h13 q11 := ⟨(k13.hg (_, _) (.tail _ (.tail _ (.tail _ List.mem_cons_self)))).2.1⟩
          have uva : SlwC h13 4 va' ((laOf bw (ws ++ [(i, a, b)])).map Thing.c) := ⟨(k13.sl (_, _, _) (.tail _ List.mem_cons_self)).1⟩
          have unb : NbC va' q12 := ⟨k13.nb (_, _) (.tail _ (.tail _ List.mem_cons_self)) (_, _, _) (.tail _ List.mem_cons_self)⟩
          have hlen : ((laOf bw (ws ++ [(i, a, b)])).length : Int) - 1 = (ws.length : Int) + 1 := by simp [laOf]
          have nw3 : NoW (((laOf bw (ws ++ [(i, a, b)])).length : Int) - 1) := by rw [hlen]; exact NoW.of (by omega) (by have := wk.len; omega)
          repeat (first | refine hS.seq ?_ | refine hS.regionW ?_ | refine W.pop ?_ | refine W.yes ?_ | refine W.no ?_ | refine W.box (fun _ _ => ?_) | refine W.alloc (fun _ _ => ?_) | refine W.store ?_ | refine W.bs (fun _ _ => ?_) | refine W.fn hS (fun _ _ => ?_) | refine WL.nil ?_ | refine R.condT hS ?_ | refine R.condF hS ?_ | refine hS.skip ?_ | refine hS.block ?_ | refine hS.inBlock ?_ | refine R.ret hS ?_ | refine R.fin hS ?_ | refine R.begin hS ?_ | refine R.endRound hS ?_ | refine R.retRound hS ?_ | refine R.retC hS ?_ | refine R.endRangeDone hS ?_ | refine R.endRangeRet hS ?_)
          rename_i q19 f19
          rw [hlen]
          refine at_heap (fun hz => St h3 hz [(q19, .cells (List.toArray [.int .i64 ((ws.length : Int) + 1), .int .i64 0, .int .i64 1000000]) 50 (0, 0)), (q16, .cells (List.toArray [.int .i64 b0, .int .i64 b]) 27 (0, 0)), (q14, .cells (List.toArray [.int .i64 a0, .int .i64 a]) 27 (0, 0)), (q12, .cells (List.toArray [vb', vtb]) 44 (0, 0)), (q11, .cells (List.toArray [va', vta]) 44 (0, 0))] [(4, vb', (lbOf bw (ws ++ [(i, a, b)])).map Thing.c), (4, va', (laOf bw (ws ++ [(i, a, b)])).map Thing.c), (3, vta, (tsOf ws.length).map Tie.c), (3, vtb, (tsOf ws.length).map Tie.c)]) ((St.upd [(q16, .cells (List.toArray [.int .i64 b0, .int .i64 b]) 27 (0, 0)), (q14, .cells (List.toArray [.int .i64 a0, .int .i64 a]) 27 (0, 0))] k13).block Ext0.out f19.out HGC.out OwnC.out) (fun h14 k14 => ?_)
          clear k13 uq12 uq11 uoq12 uoq11 xc13 uva unb
          have uq19 : HGC h14 q19 (.cells (List.toArray [.int .i64 ((ws.length : Int) + 1), .int .i64 0, .int .i64 1000000]) 50 (0, 0)) := ⟨(k14.hg (_, _) (List.mem_cons_self)).1⟩
          have uoq19 : OwnC h14 q19 := ⟨(k14.hg (_, _) (List.mem_cons_self)).2.1⟩
          have uq12 : HGC h14 q12 (.cells (List.toArray [vb', vtb]) 44 (0, 0)) := ⟨(k14.hg (_, _) (.tail _ (.tail _ (.tail _ List.mem_cons_self)))).1⟩
          have uoq12 : OwnC h14 q12 := ⟨(k14.hg (_, _) (.tail _ (.tail _ (.tail _ List.mem_cons_self)))).2.1⟩
          have uq11 : HGC h14 q11 (.cells (List.toArray [va', vta]) 44 (0, 0)) := ⟨(k14.hg (_, _) (.tail _ (.tail _ (.tail _ (.tail _ List.mem_cons_self))))).1⟩
          have uoq11 : OwnC h14 q11 := ⟨(k14.hg (_, _) (.tail _ (.tail _ (.tail _ (.tail _ List.mem_cons_self))))).2.1⟩
          have svta := slw_single (k14.sl (_, _, _) (.tail _ (.tail _ List.mem_cons_self))).1
          have svtb := slw_single (k14.sl (_, _, _) (.tail _ (.tail _ (.tail _ List.mem_cons_self)))).1
          refine hS.regionJ (fun hz => HG hz q19 (.cells (List.toArray [.int .i64 ((ws.length : Int) + 1), .int .i64 0, .int .i64 1000000]) 50 (0, 0)) ∧ HG hz q12 (.cells (List.toArray [vb', vtb]) 44 (0, 0)) ∧ HG hz q11 (.cells (List.toArray [va', vta]) 44 (0, 0))) mixed [11, 12, 13] ?_
          refine J.join (fun E' ds' hz => ds' = [] ∧ LookC E' 2 vp ∧ LookC E' 4 (.pointer (some ⟨q4, 0, none⟩)) ∧ LookC E' 5 (.pointer (some ⟨q5, 0, none⟩)) ∧ LookC E' 9 (.pointer (some ⟨q9, 0, none⟩)) ∧ LookC E' 11 (.pointer (some ⟨q11, 0, none⟩)) ∧ LookC E' 12 (.pointer (some ⟨q12, 0, none⟩)) ∧ LookC E' 13 (.int .i64 (i : Nat)) ∧ ∃ vta' vtb', St h3 hz [(q19, .cells (List.toArray [.int .i64 ((ws.length : Int) + 1), .int .i64 0, .int .i64 1000000]) 50 (0, 0)), (q16, .cells (List.toArray [.int .i64 b0, .int .i64 b]) 27 (0, 0)), (q14, .cells (List.toArray [.int .i64 a0, .int .i64 a]) 27 (0, 0)), (q12, .cells (List.toArray [vb', vtb']) 44 (0, 0)), (q11, .cells (List.toArray [va', vta']) 44 (0, 0))] [(4, vb', (lbOf bw (ws ++ [(i, a, b)])).map Thing.c), (4, va', (laOf bw (ws ++ [(i, a, b)])).map Thing.c), (3, vta', (tsOf (ws.length + 1)).map Tie.c), (3, vtb', (tsOf (ws.length + 1)).map Tie.c)]) ?_ ?_
          · refine J.take 0 rfl (by kernel_rfl) (by intro _ _ e; cases e) ⟨HGC.out, HGC.out, HGC.out⟩ (fun hz hj => by obtain ⟨a1, a2, a3⟩ := hj; have c1 : HGC hz q19 _ := ⟨a1⟩; have c2 : HGC hz q12 _ := ⟨a2⟩; have c3 : HGC hz q11 _ := ⟨a3⟩; infer_instance) ?_
            refine J.take 1 rfl (by kernel_rfl) (by intro _ _ e; cases e) ⟨HGC.out, HGC.out, HGC.out⟩ (fun hz hj => by obtain ⟨a1, a2, a3⟩ := hj; have c1 : HGC hz q19 _ := ⟨a1⟩; have c2 : HGC hz q12 _ := ⟨a2⟩; have c3 : HGC hz q11 _ := ⟨a3⟩; infer_instance) ?_
            refine J.take 2 rfl (by kernel_rfl) (by intro _ _ e; cases e) ⟨HGC.out, HGC.out, HGC.out⟩ (fun hz hj => by obtain ⟨a1, a2, a3⟩ := hj; have c1 : HGC hz q19 _ := ⟨a1⟩; have c2 : HGC hz q12 _ := ⟨a2⟩; have c3 : HGC hz q11 _ := ⟨a3⟩; infer_instance) ?_
            refine J.take 5 rfl (by kernel_rfl) (by intro _ _ e; cases e) ⟨HGC.out, HGC.out, HGC.out⟩ (fun hz hj => by obtain ⟨a1, a2, a3⟩ := hj; have c1 : HGC hz q19 _ := ⟨a1⟩; have c2 : HGC hz q12 _ := ⟨a2⟩; have c3 : HGC hz q11 _ := ⟨a3⟩; infer_instance) ?_
            refine J.take 6 rfl (by kernel_rfl) (by intro _ _ e; cases e) ⟨HGC.out, HGC.out, HGC.out⟩ (fun hz hj => by obtain ⟨a1, a2, a3⟩ := hj; have c1 : HGC hz q19 _ := ⟨a1⟩; have c2 : HGC hz q12 _ := ⟨a2⟩; have c3 : HGC hz q11 _ := ⟨a3⟩; infer_instance) ?_
            refine J.take 7 rfl (by kernel_rfl) (by intro _ _ e; cases e) ⟨HGC.out, HGC.out, HGC.out⟩ (fun hz hj => by obtain ⟨a1, a2, a3⟩ := hj; have c1 : HGC hz q19 _ := ⟨a1⟩; have c2 : HGC hz q12 _ := ⟨a2⟩; have c3 : HGC hz q11 _ := ⟨a3⟩; infer_instance) ?_
            refine J.two 3 8 rfl rfl (by kernel_rfl) ?_ ?_
            · refine W.bs (fun b3 fb3 => ?_)
              refine J.keep ⟨HGC.out, HGC.out, HGC.out⟩ ?_
              have k15 := k14.ext' (Ext0.out : Ext h14 (h14.upd b3 (.cells (List.toArray [.int .i64 ((ws.length : Int) + 1), .int .i64 0, .int .i64 1000000]) 50 (0, 0))))
              refine J.two 4 8 rfl rfl (by kernel_rfl) ?_ ?_
              · refine W.append (xs := (tsOf ws.length).map Tie.c) (ys := [Tie.c ⟨(ws.length : Int) + 1, 0, 1000000⟩]) (by_ := 24) (by kernel_rfl) (k15.sl (_, _, _) (.tail _ (.tail _ List.mem_cons_self))).1 (slOne (n := 3) (HGC.out (b := b3)) rfl) (sgl_ti _) (by have := wk.len; simp [tsOf]; omega) (by have := wk.len; simp [tsOf]; omega) (fun vta' h16 x16 fr16 hb16 => ?_)
                have y16 : SlW h16 3 vta' ((tsOf (ws.length + 1)).map Tie.c) := by rw [ts_snoc, List.map_append]; exact x16
                have k16 := St.app [(4, vb', (lbOf bw (ws ++ [(i, a, b)])).map Thing.c), (4, va', (laOf bw (ws ++ [(i, a, b)])).map Thing.c)] k15 fr16 y16 hb16
                have s16 := slw_single y16
                have zh16q19 : HGC h16 q19 (.cells (List.toArray [.int .i64 ((ws.length : Int) + 1), .int .i64 0, .int .i64 1000000]) 50 (0, 0)) := ⟨(k16.hg (_, _) (List.mem_cons_self)).1⟩
                have zoh16q19 : OwnC h16 q19 := ⟨(k16.hg (_, _) (List.mem_cons_self)).2.1⟩
                have zh16q12 : HGC h16 q12 (.cells (List.toArray [vb', vtb]) 44 (0, 0)) := ⟨(k16.hg (_, _) (.tail _ (.tail _ (.tail _ List.mem_cons_self)))).1⟩
                have zoh16q12 : OwnC h16 q12 := ⟨(k16.hg (_, _) (.tail _ (.tail _ (.tail _ List.mem_cons_self)))).2.1⟩
                have zh16q11 : HGC h16 q11 (.cells (List.toArray [va', vta]) 44 (0, 0)) := ⟨(k16.hg (_, _) (.tail _ (.tail _ (.tail _ (.tail _ List.mem_cons_self))))).1⟩
                have zoh16q11 : OwnC h16 q11 := ⟨(k16.hg (_, _) (.tail _ (.tail _ (.tail _ (.tail _ List.mem_cons_self))))).2.1⟩
                refine J.keep ⟨HGC.out, HGC.out, HGC.out⟩ ?_
                refine J.take 10 rfl (by kernel_rfl) (by intro _ _ e; cases e) ⟨HGC.out, HGC.out, HGC.out⟩ (fun hz hj => by obtain ⟨a1, a2, a3⟩ := hj; have c1 : HGC hz q19 _ := ⟨a1⟩; have c2 : HGC hz q12 _ := ⟨a2⟩; have c3 : HGC hz q11 _ := ⟨a3⟩; infer_instance) ?_
                refine J.one 8 rfl (by kernel_rfl) ?_
                refine W.bs (fun b4 fb4 => ?_)
                refine J.keep ⟨HGC.out, HGC.out, HGC.out⟩ ?_
                have k17 := k16.ext' (Ext0.out : Ext h16 (h16.upd b4 (.cells (List.toArray [.int .i64 ((ws.length : Int) + 1), .int .i64 0, .int .i64 1000000]) 50 (0, 0))))
                refine J.one 9 rfl (by kernel_rfl) ?_
                refine W.append (xs := (tsOf ws.length).map Tie.c) (ys := [Tie.c ⟨(ws.length : Int) + 1, 0, 1000000⟩]) (by_ := 24) (by kernel_rfl) (k17.sl (_, _, _) (.tail _ (.tail _ (.tail _ List.mem_cons_self)))).1 (slOne (n := 3) (HGC.out (b := b4)) rfl) (sgl_ti _) (by have := wk.len; simp [tsOf]; omega) (by have := wk.len; simp [tsOf]; omega) (fun vtb' h18 xh18 frh18 hbh18 => ?_)
                have yh18 : SlW h18 3 vtb' ((tsOf (ws.length + 1)).map Tie.c) := by rw [ts_snoc, List.map_append]; exact xh18
                have k18 := St.app [(4, vb', (lbOf bw (ws ++ [(i, a, b)])).map Thing.c), (4, va', (laOf bw (ws ++ [(i, a, b)])).map Thing.c), (3, vta', (tsOf (ws.length + 1)).map Tie.c)] k17 frh18 yh18 hbh18
                have s18 := slw_single yh18
                have zh18q19 : HGC h18 q19 (.cells (List.toArray [.int .i64 ((ws.length : Int) + 1), .int .i64 0, .int .i64 1000000]) 50 (0, 0)) := ⟨(k18.hg (_, _) (List.mem_cons_self)).1⟩
                have zoh18q19 : OwnC h18 q19 := ⟨(k18.hg (_, _) (List.mem_cons_self)).2.1⟩
                have zh18q12 : HGC h18 q12 (.cells (List.toArray [vb', vtb]) 44 (0, 0)) := ⟨(k18.hg (_, _) (.tail _ (.tail _ (.tail _ List.mem_cons_self)))).1⟩
                have zoh18q12 : OwnC h18 q12 := ⟨(k18.hg (_, _) (.tail _ (.tail _ (.tail _ List.mem_cons_self)))).2.1⟩
                have zh18q11 : HGC h18 q11 (.cells (List.toArray [va', vta]) 44 (0, 0)) := ⟨(k18.hg (_, _) (.tail _ (.tail _ (.tail _ (.tail _ List.mem_cons_self))))).1⟩
                have zoh18q11 : OwnC h18 q11 := ⟨(k18.hg (_, _) (.tail _ (.tail _ (.tail _ (.tail _ List.mem_cons_self))))).2.1⟩
                refine J.keep ⟨HGC.out, HGC.out, HGC.out⟩ ?_
                refine J.one 11 rfl (by kernel_rfl) ?_
                refine W.store ?_
                refine J.hard (by rfl) ?_
                refine J.one 12 rfl (by kernel_rfl) ?_
                refine W.pop ?_
                refine J.hard (by rfl) ?_
                refine J.one 13 rfl (by kernel_rfl) ?_
                refine W.store ?_
                refine J.hard (by rfl) ?_
                refine AnyJ.done (by kernel_rfl) ?_
                exact ⟨rfl, inferInstance, inferInstance, inferInstance, inferInstance, inferInstance, inferInstance, inferInstance, vta', vtb', St.upd [(q19, .cells (List.toArray [.int .i64 ((ws.length : Int) + 1), .int .i64 0, .int .i64 1000000]) 50 (0, 0)), (q16, .cells (List.toArray [.int .i64 b0, .int .i64 b]) 27 (0, 0)), (q14, .cells (List.toArray [.int .i64 a0, .int .i64 a]) 27 (0, 0))] (St.upd [(q19, .cells (List.toArray [.int .i64 ((ws.length : Int) + 1), .int .i64 0, .int .i64 1000000]) 50 (0, 0)), (q16, .cells (List.toArray [.int .i64 b0, .int .i64 b]) 27 (0, 0)), (q14, .cells (List.toArray [.int .i64 a0, .int .i64 a]) 27 (0, 0)), (q12, .cells (List.toArray [vb', vtb]) 44 (0, 0))] k18)⟩
              · refine W.bs (fun b4 fb4 => ?_)
                refine J.keep ⟨HGC.out, HGC.out, HGC.out⟩ ?_
                have k16 := k15.ext' (Ext0.out : Ext (h14.upd b3 (.cells (List.toArray [.int .i64 ((ws.length : Int) + 1), .int .i64 0, .int .i64 1000000]) 50 (0, 0))) ((h14.upd b3 (.cells (List.toArray [.int .i64 ((ws.length : Int) + 1), .int .i64 0, .int .i64 1000000]) 50 (0, 0))).upd b4 (.cells (List.toArray [.int .i64 ((ws.length : Int) + 1), .int .i64 0, .int .i64 1000000]) 50 (0, 0))))
                refine J.one 4 rfl (by kernel_rfl) ?_
                refine W.append (xs := (tsOf ws.length).map Tie.c) (ys := [Tie.c ⟨(ws.length : Int) + 1, 0, 1000000⟩]) (by_ := 24) (by kernel_rfl) (k16.sl (_, _, _) (.tail _ (.tail _ List.mem_cons_self))).1 (slOne (n := 3) (HGC.out (b := b3)) rfl) (sgl_ti _) (by have := wk.len; simp [tsOf]; omega) (by have := wk.len; simp [tsOf]; omega) (fun vta' h17 xh17 frh17 hbh17 => ?_)
                have yh17 : SlW h17 3 vta' ((tsOf (ws.length + 1)).map Tie.c) := by rw [ts_snoc, List.map_append]; exact xh17
                have k17 := St.app [(4, vb', (lbOf bw (ws ++ [(i, a, b)])).map Thing.c), (4, va', (laOf bw (ws ++ [(i, a, b)])).map Thing.c)] k16 frh17 yh17 hbh17
                have s17 := slw_single yh17
                have zh17q19 : HGC h17 q19 (.cells (List.toArray [.int .i64 ((ws.length : Int) + 1), .int .i64 0, .int .i64 1000000]) 50 (0, 0)) := ⟨(k17.hg (_, _) (List.mem_cons_self)).1⟩
                have zoh17q19 : OwnC h17 q19 := ⟨(k17.hg (_, _) (List.mem_cons_self)).2.1⟩
                have zh17q12 : HGC h17 q12 (.cells (List.toArray [vb', vtb]) 44 (0, 0)) := ⟨(k17.hg (_, _) (.tail _ (.tail _ (.tail _ List.mem_cons_self)))).1⟩
                have zoh17q12 : OwnC h17 q12 := ⟨(k17.hg (_, _) (.tail _ (.tail _ (.tail _ List.mem_cons_self)))).2.1⟩
                have zh17q11 : HGC h17 q11 (.cells (List.toArray [va', vta]) 44 (0, 0)) := ⟨(k17.hg (_, _) (.tail _ (.tail _ (.tail _ (.tail _ List.mem_cons_self))))).1⟩
                have zoh17q11 : OwnC h17 q11 := ⟨(k17.hg (_, _) (.tail _ (.tail _ (.tail _ (.tail _ List.mem_cons_self))))).2.1⟩
                have zb4 : HGC h17 b4 (.cells (List.toArray [.int .i64 ((ws.length : Int) + 1), .int .i64 0, .int .i64 1000000]) 50 (0, 0)) := ⟨frw_hg frh17 HGC.out (fun e => (k14.sl (_, _, _) (.tail _ (.tail _ List.mem_cons_self))).1.dom e (fresh_of' (fb4.out) (Ext0.out : Ext h14 (h14.upd b3 (.cells (List.toArray [.int .i64 ((ws.length : Int) + 1), .int .i64 0, .int .i64 1000000]) 50 (0, 0))))))⟩
                refine J.keep ⟨HGC.out, HGC.out, HGC.out⟩ ?_
                refine J.take 10 rfl (by kernel_rfl) (by intro _ _ e; cases e) ⟨HGC.out, HGC.out, HGC.out⟩ (fun hz hj => by obtain ⟨a1, a2, a3⟩ := hj; have c1 : HGC hz q19 _ := ⟨a1⟩; have c2 : HGC hz q12 _ := ⟨a2⟩; have c3 : HGC hz q11 _ := ⟨a3⟩; infer_instance) ?_
                refine J.one 9 rfl (by kernel_rfl) ?_
                refine W.append (xs := (tsOf ws.length).map Tie.c) (ys := [Tie.c ⟨(ws.length : Int) + 1, 0, 1000000⟩]) (by_ := 24) (by kernel_rfl) (k17.sl (_, _, _) (.tail _ (.tail _ (.tail _ List.mem_cons_self)))).1 (slOne (n := 3) (HGC.out (b := b4)) rfl) (sgl_ti _) (by have := wk.len; simp [tsOf]; omega) (by have := wk.len; simp [tsOf]; omega) (fun vtb' h18 xh18 frh18 hbh18 => ?_)
                have yh18 : SlW h18 3 vtb' ((tsOf (ws.length + 1)).map Tie.c) := by rw [ts_snoc, List.map_append]; exact xh18
                have k18 := St.app [(4, vb', (lbOf bw (ws ++ [(i, a, b)])).map Thing.c), (4, va', (laOf bw (ws ++ [(i, a, b)])).map Thing.c), (3, vta', (tsOf (ws.length + 1)).map Tie.c)] k17 frh18 yh18 hbh18
                have s18 := slw_single yh18
                have zh18q19 : HGC h18 q19 (.cells (List.toArray [.int .i64 ((ws.length : Int) + 1), .int .i64 0, .int .i64 1000000]) 50 (0, 0)) := ⟨(k18.hg (_, _) (List.mem_cons_self)).1⟩
                have zoh18q19 : OwnC h18 q19 := ⟨(k18.hg (_, _) (List.mem_cons_self)).2.1⟩
                have zh18q12 : HGC h18 q12 (.cells (List.toArray [vb', vtb]) 44 (0, 0)) := ⟨(k18.hg (_, _) (.tail _ (.tail _ (.tail _ List.mem_cons_self)))).1⟩
                have zoh18q12 : OwnC h18 q12 := ⟨(k18.hg (_, _) (.tail _ (.tail _ (.tail _ List.mem_cons_self)))).2.1⟩
                have zh18q11 : HGC h18 q11 (.cells (List.toArray [va', vta]) 44 (0, 0)) := ⟨(k18.hg (_, _) (.tail _ (.tail _ (.tail _ (.tail _ List.mem_cons_self))))).1⟩
                have zoh18q11 : OwnC h18 q11 := ⟨(k18.hg (_, _) (.tail _ (.tail _ (.tail _ (.tail _ List.mem_cons_self))))).2.1⟩
                refine J.keep ⟨HGC.out, HGC.out, HGC.out⟩ ?_
                refine J.one 11 rfl (by kernel_rfl) ?_
                refine W.store ?_
                refine J.hard (by rfl) ?_
                refine J.one 12 rfl (by kernel_rfl) ?_
                refine W.pop ?_
                refine J.hard (by rfl) ?_
                refine J.one 13 rfl (by kernel_rfl) ?_
                refine W.store ?_
                refine J.hard (by rfl) ?_
                refine AnyJ.done (by kernel_rfl) ?_
                exact ⟨rfl, inferInstance, inferInstance, inferInstance, inferInstance, inferInstance, inferInstance, inferInstance, vta', vtb', St.upd [(q19, .cells (List.toArray [.int .i64 ((ws.length : Int) + 1), .int .i64 0, .int .i64 1000000]) 50 (0, 0)), (q16, .cells (List.toArray [.int .i64 b0, .int .i64 b]) 27 (0, 0)), (q14, .cells (List.toArray [.int .i64 a0, .int .i64 a]) 27 (0, 0))] (St.upd [(q19, .cells (List.toArray [.int .i64 ((ws.length : Int) + 1), .int .i64 0, .int .i64 1000000]) 50 (0, 0)), (q16, .cells (List.toArray [.int .i64 b0, .int .i64 b]) 27 (0, 0)), (q14, .cells (List.toArray [.int .i64 a0, .int .i64 a]) 27 (0, 0)), (q12, .cells (List.toArray [vb', vtb]) 44 (0, 0))] k18)⟩
            · refine W.bs (fun b4 fb4 => ?_)
              refine J.keep ⟨HGC.out, HGC.out, HGC.out⟩ ?_
              refine J.one 3 rfl (by kernel_rfl) ?_
              refine W.bs (fun b3 fb3 => ?_)
              refine J.keep ⟨HGC.out, HGC.out, HGC.out⟩ ?_
              have k16 := k14.ext' (Ext0.out : Ext h14 ((h14.upd b4 (.cells (List.toArray [.int .i64 ((ws.length : Int) + 1), .int .i64 0, .int .i64 1000000]) 50 (0, 0))).upd b3 (.cells (List.toArray [.int .i64 ((ws.length : Int) + 1), .int .i64 0, .int .i64 1000000]) 50 (0, 0))))
              refine J.one 4 rfl (by kernel_rfl) ?_
              refine W.append (xs := (tsOf ws.length).map Tie.c) (ys := [Tie.c ⟨(ws.length : Int) + 1, 0, 1000000⟩]) (by_ := 24) (by kernel_rfl) (k16.sl (_, _, _) (.tail _ (.tail _ List.mem_cons_self))).1 (slOne (n := 3) (HGC.out (b := b3)) rfl) (sgl_ti _) (by have := wk.len; simp [tsOf]; omega) (by have := wk.len; simp [tsOf]; omega) (fun vta' h17 xh17 frh17 hbh17 => ?_)
              have yh17 : SlW h17 3 vta' ((tsOf (ws.length + 1)).map Tie.c) := by rw [ts_snoc, List.map_append]; exact xh17
              have k17 := St.app [(4, vb', (lbOf bw (ws ++ [(i, a, b)])).map Thing.c), (4, va', (laOf bw (ws ++ [(i, a, b)])).map Thing.c)] k16 frh17 yh17 hbh17
              have s17 := slw_single yh17
              have zh17q19 : HGC h17 q19 (.cells (List.toArray [.int .i64 ((ws.length : Int) + 1), .int .i64 0, .int .i64 1000000]) 50 (0, 0)) := ⟨(k17.hg (_, _) (List.mem_cons_self)).1⟩
              have zoh17q19 : OwnC h17 q19 := ⟨(k17.hg (_, _) (List.mem_cons_self)).2.1⟩
              have zh17q12 : HGC h17 q12 (.cells (List.toArray [vb', vtb]) 44 (0, 0)) := ⟨(k17.hg (_, _) (.tail _ (.tail _ (.tail _ List.mem_cons_self)))).1⟩
              have zoh17q12 : OwnC h17 q12 := ⟨(k17.hg (_, _) (.tail _ (.tail _ (.tail _ List.mem_cons_self)))).2.1⟩
              have zh17q11 : HGC h17 q11 (.cells (List.toArray [va', vta]) 44 (0, 0)) := ⟨(k17.hg (_, _) (.tail _ (.tail _ (.tail _ (.tail _ List.mem_cons_self))))).1⟩
              have zoh17q11 : OwnC h17 q11 := ⟨(k17.hg (_, _) (.tail _ (.tail _ (.tail _ (.tail _ List.mem_cons_self))))).2.1⟩
              have zb4 : HGC h17 b4 (.cells (List.toArray [.int .i64 ((ws.length : Int) + 1), .int .i64 0, .int .i64 1000000]) 50 (0, 0)) := ⟨frw_hg frh17 HGC.out (fun e => (k14.sl (_, _, _) (.tail _ (.tail _ List.mem_cons_self))).1.dom e fb4.out)⟩
              refine J.keep ⟨HGC.out, HGC.out, HGC.out⟩ ?_
              refine J.take 10 rfl (by kernel_rfl) (by intro _ _ e; cases e) ⟨HGC.out, HGC.out, HGC.out⟩ (fun hz hj => by obtain ⟨a1, a2, a3⟩ := hj; have c1 : HGC hz q19 _ := ⟨a1⟩; have c2 : HGC hz q12 _ := ⟨a2⟩; have c3 : HGC hz q11 _ := ⟨a3⟩; infer_instance) ?_
              refine J.one 9 rfl (by kernel_rfl) ?_
              refine W.append (xs := (tsOf ws.length).map Tie.c) (ys := [Tie.c ⟨(ws.length : Int) + 1, 0, 1000000⟩]) (by_ := 24) (by kernel_rfl) (k17.sl (_, _, _) (.tail _ (.tail _ (.tail _ List.mem_cons_self)))).1 (slOne (n := 3) (HGC.out (b := b4)) rfl) (sgl_ti _) (by have := wk.len; simp [tsOf]; omega) (by have := wk.len; simp [tsOf]; omega) (fun vtb' h18 xh18 frh18 hbh18 => ?_)
              have yh18 : SlW h18 3 vtb' ((tsOf (ws.length + 1)).map Tie.c) := by rw [ts_snoc, List.map_append]; exact xh18
              have k18 := St.app [(4, vb', (lbOf bw (ws ++ [(i, a, b)])).map Thing.c), (4, va', (laOf bw (ws ++ [(i, a, b)])).map Thing.c), (3, vta', (tsOf (ws.length + 1)).map Tie.c)] k17 frh18 yh18 hbh18
              have s18 := slw_single yh18
              have zh18q19 : HGC h18 q19 (.cells (List.toArray [.int .i64 ((ws.length : Int) + 1), .int .i64 0, .int .i64 1000000]) 50 (0, 0)) := ⟨(k18.hg (_, _) (List.mem_cons_self)).1⟩
              have zoh18q19 : OwnC h18 q19 := ⟨(k18.hg (_, _) (List.mem_cons_self)).2.1⟩
              have zh18q12 : HGC h18 q12 (.cells (List.toArray [vb', vtb]) 44 (0, 0)) := ⟨(k18.hg (_, _) (.tail _ (.tail _ (.tail _ List.mem_cons_self)))).1⟩
              have zoh18q12 : OwnC h18 q12 := ⟨(k18.hg (_, _) (.tail _ (.tail _ (.tail _ List.mem_cons_self)))).2.1⟩
              have zh18q11 : HGC h18 q11 (.cells (List.toArray [va', vta]) 44 (0, 0)) := ⟨(k18.hg (_, _) (.tail _ (.tail _ (.tail _ (.tail _ List.mem_cons_self))))).1⟩
              have zoh18q11 : OwnC h18 q11 := ⟨(k18.hg (_, _) (.tail _ (.tail _ (.tail _ (.tail _ List.mem_cons_self))))).2.1⟩
              refine J.keep ⟨HGC.out, HGC.out, HGC.out⟩ ?_
              refine J.one 11 rfl (by kernel_rfl) ?_
              refine W.store ?_
              refine J.hard (by rfl) ?_
              refine J.one 12 rfl (by kernel_rfl) ?_
              refine W.pop ?_
              refine J.hard (by rfl) ?_
              refine J.one 13 rfl (by kernel_rfl) ?_
              refine W.store ?_
              refine J.hard (by rfl) ?_
              refine AnyJ.done (by kernel_rfl) ?_
              exact ⟨rfl, inferInstance, inferInstance, inferInstance, inferInstance, inferInstance, inferInstance, inferInstance, vta', vtb', St.upd [(q19, .cells (List.toArray [.int .i64 ((ws.length : Int) + 1), .int .i64 0, .int .i64 1000000]) 50 (0, 0)), (q16, .cells (List.toArray [.int .i64 b0, .int .i64 b]) 27 (0, 0)), (q14, .cells (List.toArray [.int .i64 a0, .int .i64 a]) 27 (0, 0))] (St.upd [(q19, .cells (List.toArray [.int .i64 ((ws.length : Int) + 1), .int .i64 0, .int .i64 1000000]) 50 (0, 0)), (q16, .cells (List.toArray [.int .i64 b0, .int .i64 b]) 27 (0, 0)), (q14, .cells (List.toArray [.int .i64 a0, .int .i64 a]) 27 (0, 0)), (q12, .cells (List.toArray [vb', vtb]) 44 (0, 0))] k18)⟩
          · rintro E3 ds3 h19 ⟨rfl, m2, m4, m5, m9, m11, m12, m13, vta', vtb', k19⟩
            repeat (first | refine hS.seq ?_ | refine hS.regionW ?_ | refine W.pop ?_ | refine W.yes ?_ | refine W.no ?_ | refine W.box (fun _ _ => ?_) | refine W.alloc (fun _ _ => ?_) | refine W.store ?_ | refine W.bs (fun _ _ => ?_) | refine W.fn hS (fun _ _ => ?_) | refine WL.nil ?_ | refine R.condT hS ?_ | refine R.condF hS ?_ | refine hS.skip ?_ | refine hS.block ?_ | refine hS.inBlock ?_ | refine R.ret hS ?_ | refine R.fin hS ?_ | refine R.begin hS ?_ | refine R.endRound hS ?_ | refine R.retRound hS ?_ | refine R.retC hS ?_ | refine R.endRangeDone hS ?_ | refine R.endRangeRet hS ?_)
            refine hS.inLoop ?_
            exact ih (i + 1) _ _ (by omega) ⟨hlt, inferInstance, inferInstance, inferInstance, inferInstance, inferInstance, inferInstance, by have e : ((i + 1 : Nat) : Int) = (i : Int) + 1 := (by omega); rw [e]; infer_instance, va', vb', vta', vtb', ws ++ [(i, a, b)], wk.snoc ⟨hl.1, hl.2.1, by omega⟩, by rw [show (ws ++ [(i, a, b)]).length = ws.length + 1 by simp]; exact k19.less (.cons _ (.cons _ (.cons _ (List.Sublist.refl _))))⟩
    · have t1 : IsC (decide ((i : Int) < (pts.length : Int))) false := ⟨by simp; omega⟩
      have wk10 : WsOk 10 ws := ⟨Nat.le_trans wk.len (by omega), wk.asc, fun x hx => Nat.lt_of_lt_of_le (wk.lt x hx) (by omega), wk.rng⟩
      have i12 : HGC h' q12 (.cells (List.toArray [vb, vtb]) 44 (0, 0)) := ⟨(k.hg (_, _) (List.mem_cons_self)).1⟩
      have i11 : HGC h' q11 (.cells (List.toArray [va, vta]) 44 (0, 0)) := ⟨(k.hg (_, _) (.tail _ List.mem_cons_self)).1⟩
      have sb : SlC h' 4 vb _ := ⟨(k.sl (_, _, _) (List.mem_cons_self)).1.sle⟩
      have sa : SlC h' 4 va _ := ⟨(k.sl (_, _, _) (.tail _ List.mem_cons_self)).1.sle⟩
      have sta : SlC h' 3 vta _ := ⟨(k.sl (_, _, _) (.tail _ (.tail _ List.mem_cons_self))).1.sle⟩
      have stb : SlC h' 3 vtb _ := ⟨(k.sl (_, _, _) (.tail _ (.tail _ (.tail _ List.mem_cons_self)))).1.sle⟩
      have gb := slw_single (k.sl (_, _, _) (List.mem_cons_self)).1
      have ga := slw_single (k.sl (_, _, _) (.tail _ List.mem_cons_self)).1
      have gta := slw_single (k.sl (_, _, _) (.tail _ (.tail _ List.mem_cons_self))).1
      have gtb := slw_single (k.sl (_, _, _) (.tail _ (.tail _ (.tail _ List.mem_cons_self)))).1
      have hgh' : h'.gh = [] := k.ex.gh.trans gh3
      have xhh : Ext h h' := x3.trans k.ex
      repeat (first | refine hS.seq ?_ | refine hS.regionW ?_ | refine W.pop ?_ | refine W.yes ?_ | refine W.no ?_ | refine W.box (fun _ _ => ?_) | refine W.alloc (fun _ _ => ?_) | refine W.store ?_ | refine W.bs (fun _ _ => ?_) | refine W.fn hS (fun _ _ => ?_) | refine WL.nil ?_ | refine R.condT hS ?_ | refine R.condF hS ?_ | refine hS.skip ?_ | refine hS.block ?_ | refine hS.inBlock ?_ | refine R.ret hS ?_ | refine R.fin hS ?_ | refine R.begin hS ?_ | refine R.endRound hS ?_ | refine R.retRound hS ?_ | refine R.retC hS ?_ | refine R.endRangeDone hS ?_ | refine R.endRangeRet hS ?_)
      refine hS.exit rfl ?_
      repeat (first | refine hS.seq ?_ | refine hS.regionW ?_ | refine W.pop ?_ | refine W.yes ?_ | refine W.no ?_ | refine W.box (fun _ _ => ?_) | refine W.alloc (fun _ _ => ?_) | refine W.store ?_ | refine W.bs (fun _ _ => ?_) | refine W.fn hS (fun _ _ => ?_) | refine WL.nil ?_ | refine R.condT hS ?_ | refine R.condF hS ?_ | refine hS.skip ?_ | refine hS.block ?_ | refine hS.inBlock ?_ | refine R.ret hS ?_ | refine R.fin hS ?_ | refine R.begin hS ?_ | refine R.endRound hS ?_ | refine R.retRound hS ?_ | refine R.retC hS ?_ | refine R.endRangeDone hS ?_ | refine R.endRangeRet hS ?_)
      refine W.callM hM (c11 (h := h') (v := va) (w' := vta) (l := laOf bw ws) (ts := tsOf ws.length) hgh' (z0.ext xhh) (z1.ext xhh) (good_a ebw wk10) (goodt_a wk10)) (fun r2 h9 hr2 => ?_)
      obtain ⟨x9, sh1, cu1, ok1, rfl, hok1⟩ := hr2
      have x9c : ExtC h' h9 := ⟨x9⟩
      repeat (first | refine hS.seq ?_ | refine hS.regionW ?_ | refine W.pop ?_ | refine W.yes ?_ | refine W.no ?_ | refine W.box (fun _ _ => ?_) | refine W.alloc (fun _ _ => ?_) | refine W.store ?_ | refine W.bs (fun _ _ => ?_) | refine W.fn hS (fun _ _ => ?_) | refine WL.nil ?_ | refine R.condT hS ?_ | refine R.condF hS ?_ | refine hS.skip ?_ | refine hS.block ?_ | refine hS.inBlock ?_ | refine R.ret hS ?_ | refine R.fin hS ?_ | refine R.begin hS ?_ | refine R.endRound hS ?_ | refine R.retRound hS ?_ | refine R.retC hS ?_ | refine R.endRangeDone hS ?_ | refine R.endRangeRet hS ?_)
      have sb9 : SlC h9 4 vb _ := ⟨sb.out.ext x9⟩
      have stb9 : SlC h9 3 vtb _ := ⟨stb.out.ext x9⟩
      refine W.callM hM (c11 (h := h9) (v := vb) (w' := vtb) (l := lbOf bw ws) (ts := tsOf ws.length) (x9.gh.trans hgh') ((z0.ext xhh).ext x9) ((z1.ext xhh).ext x9) (good_b ebw wk10) (goodt_b wk10)) (fun r3 h10 hr3 => ?_)
      obtain ⟨x10, sh2, cu2, ok2, rfl, hok2⟩ := hr3
      have x10c : ExtC h9 h10 := ⟨x10⟩
      have t2 : IsC ((0 : Int) == 0) true := ⟨rfl⟩
      cases ok1 with
      | true =>
        have e2 : ok2 = true := hok2.2 (hung_mono wk (hok1.1 rfl))
        subst e2
        have t3 : IsC (!true) false := ⟨rfl⟩
        have t4 : IsC true true := ⟨rfl⟩
        repeat (first | refine hS.seq ?_ | refine hS.regionW ?_ | refine W.pop ?_ | refine W.yes ?_ | refine W.no ?_ | refine W.box (fun _ _ => ?_) | refine W.alloc (fun _ _ => ?_) | refine W.store ?_ | refine W.bs (fun _ _ => ?_) | refine W.fn hS (fun _ _ => ?_) | refine WL.nil ?_ | refine R.condT hS ?_ | refine R.condF hS ?_ | refine hS.skip ?_ | refine hS.block ?_ | refine hS.inBlock ?_ | refine R.ret hS ?_ | refine R.fin hS ?_ | refine R.begin hS ?_ | refine R.endRound hS ?_ | refine R.retRound hS ?_ | refine R.retC hS ?_ | refine R.endRangeDone hS ?_ | refine R.endRangeRet hS ?_)
        exact hc _ _ _ _ _ inferInstance inferInstance ⟨Ext0.out, rfl⟩
      | false =>
        have t3 : IsC (!false) true := ⟨rfl⟩
        have t4 : IsC true true := ⟨rfl⟩
        repeat (first | refine hS.seq ?_ | refine hS.regionW ?_ | refine W.pop ?_ | refine W.yes ?_ | refine W.no ?_ | refine W.box (fun _ _ => ?_) | refine W.alloc (fun _ _ => ?_) | refine W.store ?_ | refine W.bs (fun _ _ => ?_) | refine W.fn hS (fun _ _ => ?_) | refine WL.nil ?_ | refine R.condT hS ?_ | refine R.condF hS ?_ | refine hS.skip ?_ | refine hS.block ?_ | refine hS.inBlock ?_ | refine R.ret hS ?_ | refine R.fin hS ?_ | refine R.begin hS ?_ | refine R.endRound hS ?_ | refine R.retRound hS ?_ | refine R.retC hS ?_ | refine R.endRangeDone hS ?_ | refine R.endRangeRet hS ?_)
        exact hc _ _ _ _ _ inferInstance inferInstance ⟨Ext0.out, rfl⟩
end Go.Proofs.YtankmjkogcbnfaaDoor
namespace Go.Proofs.YtankmjkogcbnfaaDoor
open Go Go.SL Go.Conc Go.RowKit Go.ChangeShapes Go.WideShapes
section
variable {H : Type} {enc : TypeId × Value → H} {W : World} {sp : Nat → Bool} {held : Bool}
theorem i48 : IntT enc Tryd.prog W sp held 48 2 := intT_struct fls48.out (by kernel_rfl) ⟨rfl, 1, cz3, intT_int u3, rfl, 1, cz3, intT_int u3, rfl⟩
theorem i27 : IntT enc Tryd.prog W sp held 27 2 := intT_struct fls27.out (by kernel_rfl) ⟨rfl, 1, cz3, intT_int u3, rfl, 1, cz3, intT_int u3, rfl⟩
theorem cz48 : Tryd.prog.cellsOf 48 = 2 := by kernel_rfl
theorem cz27 : Tryd.prog.cellsOf 27 = 2 := by kernel_rfl
theorem cz108 : Tryd.prog.cellsOf 108 = 4 := by kernel_rfl
theorem cz120 : Tryd.prog.cellsOf 120 = 4 := by kernel_rfl
theorem i108 : IntT enc Tryd.prog W sp held 108 4 := intT_struct (fl := [(48, 0), (48, 2)]) (by kernel_rfl) cz108 ⟨rfl, 2, cz48, i48, rfl, 2, cz48, i48, rfl⟩
theorem i120 : IntT enc Tryd.prog W sp held 120 4 := intT_struct (fl := [(48, 0), (27, 2)]) (by kernel_rfl) cz120 ⟨rfl, 2, cz48, i48, rfl, 2, cz27, i27, rfl⟩
theorem i32s : IntT enc Tryd.prog W sp held 32 4 := intT_struct (fl := [(27, 0), (3, 2), (3, 3)]) (by kernel_rfl) (by kernel_rfl) ⟨rfl, 2, cz27, i27, rfl, 1, cz3, intT_int u3, rfl, 1, cz3, intT_int u3, rfl⟩
theorem len4 {α : Type} {l : List α} (h : l.length = 4) : ∃ a b c d, l = [a, b, c, d] := by
  match l, h with
  | [a, b, c, d], _ => exact ⟨a, b, c, d, rfl⟩
theorem len6 {α : Type} {l : List α} (h : l.length = 6) : ∃ a b c d e f, l = [a, b, c, d, e, f] := by
  match l, h with
  | [a, b, c, d, e, f], _ => exact ⟨a, b, c, d, e, f, rfl⟩
theorem u22 : Tryd.prog.underlying 22 = some (.slice 48) := by kernel_rfl
theorem u23 : Tryd.prog.underlying 23 = some (.slice 108) := by kernel_rfl
theorem u28 : Tryd.prog.underlying 28 = some (.slice 120) := by kernel_rfl
theorem pts_of {fuel : Nat} {cs : List Value} {x : DataW H × List MemPlace} (h : DataW.trod enc Tryd.prog W 0 sp held fuel 22 cs = some x) : ∃ (v : Value) (l : List Pt), cs = [v] ∧ SingleC v ∧ SlE (LH.all W) 2 v (l.map Pt.c) :=
  sl_of Pt.c u22 cz48 (by decide) i48 (fun zs hz => by obtain ⟨a, b, rfl⟩ := len2 hz; exact ⟨⟨a, b⟩, rfl⟩) h
theorem boxes_of {fuel : Nat} {cs : List Value} {x : DataW H × List MemPlace} (h : DataW.trod enc Tryd.prog W 0 sp held fuel 23 cs = some x) : ∃ (v : Value) (l : List Bx), cs = [v] ∧ SingleC v ∧ SlE (LH.all W) 4 v (l.map Bx.cs) :=
  sl_of Bx.cs u23 cz108 (by decide) i108 (fun zs hz => by obtain ⟨a, b, c, d, rfl⟩ := len4 hz; exact ⟨⟨a, b, c, d⟩, rfl⟩) h
theorem marks_of {fuel : Nat} {cs : List Value} {x : DataW H × List MemPlace} (h : DataW.trod enc Tryd.prog W 0 sp held fuel 28 cs = some x) : ∃ (v : Value) (l : List Mk), cs = [v] ∧ SingleC v ∧ SlE (LH.all W) 4 v (l.map Mk.c) :=
  sl_of Mk.c u28 cz120 (by decide) i120 (fun zs hz => by obtain ⟨a, b, c, d, rfl⟩ := len4 hz; exact ⟨⟨a, b, c, d⟩, rfl⟩) h
theorem f25 : flB Tryd.prog 25 = some [(22, 0), (23, 1)] := by kernel_rfl
theorem f30 : flB Tryd.prog 30 = some [(25, 0), (3, 2), (27, 3), (28, 5)] := by kernel_rfl
theorem cz25 : Tryd.prog.cellsOf 25 = 2 := by kernel_rfl
theorem cz30 : Tryd.prog.cellsOf 30 = 6 := by kernel_rfl
theorem cz22 : Tryd.prog.cellsOf 22 = 1 := by kernel_rfl
theorem cz23 : Tryd.prog.cellsOf 23 = 1 := by kernel_rfl
theorem cz28 : Tryd.prog.cellsOf 28 = 1 := by kernel_rfl
theorem skin_of {fuel : Nat} {cs : List Value} {x : DataW H × List MemPlace} (h : DataW.trod enc Tryd.prog W 0 sp held fuel 30 cs = some x) :
    ∃ (vo vh vm : Value) (st lo hi : Int) (l : List Pt) (lh : List Bx) (lm : List Mk), cs = [vo, vh, .int .i64 st, .int .i64 lo, .int .i64 hi, vm] ∧ (SingleC vo ∧ SingleC vh ∧ SingleC vm) ∧ SlE (LH.all W) 2 vo (l.map Pt.c) ∧ SlE (LH.all W) 4 vh (lh.map Bx.cs) ∧ SlE (LH.all W) 4 vm (lm.map Mk.c) := by
  obtain ⟨xs, m, _, hl, hxl, hel⟩ := struct_of f30 h
  rw [cz30] at hl
  obtain ⟨a, b, c, d, e, f, rfl⟩ := len6 hl
  have ex : ∀ i, i < 4 → ∃ y, xs[i]? = some y := fun i hi => ⟨xs[i]'(by rw [hxl]; exact hi), by simp [hxl, hi]⟩
  obtain ⟨y0, e0⟩ := ex 0 (by decide)
  obtain ⟨y1, e1⟩ := ex 1 (by decide)
  obtain ⟨y2, e2⟩ := ex 2 (by decide)
  obtain ⟨y3, e3⟩ := ex 3 (by decide)
  have h0 := hel 0 (25, 0) rfl
  have h1 := hel 1 (3, 2) rfl
  have h2 := hel 2 (27, 3) rfl
  have h3 := hel 3 (28, 5) rfl
  rw [e0, cz25] at h0
  rw [e1, cz3] at h1
  rw [e2, cz27] at h2
  rw [e3, cz28] at h3
  simp only [List.drop_succ_cons, List.drop_zero, List.take_succ_cons, List.take_zero] at h0 h1 h2 h3
  obtain ⟨ys, m', _, hl', hyl, hely⟩ := struct_of f25 h0
  obtain ⟨z0, k0⟩ : ∃ y, ys[0]? = some y := ⟨ys[0]'(by rw [hyl]; decide), by simp [hyl]⟩
  obtain ⟨z1, k1⟩ : ∃ y, ys[1]? = some y := ⟨ys[1]'(by rw [hyl]; decide), by simp [hyl]⟩
  have g0 := hely 0 (22, 0) rfl
  have g1 := hely 1 (23, 1) rfl
  rw [k0, cz22] at g0
  rw [k1, cz23] at g1
  simp only [List.drop_succ_cons, List.drop_zero, List.take_succ_cons, List.take_zero] at g0 g1
  obtain ⟨v0, l, q0, s0, t0⟩ := pts_of g0
  obtain ⟨v1, lh, q1, s1, t1⟩ := boxes_of g1
  obtain ⟨v2, lm, q2, s2, t2⟩ := marks_of h3
  obtain ⟨zs, hz, q3⟩ := intT_int (enc := enc) (W := W) (sp := sp) (held := held) u3 _ _ _ h1
  obtain ⟨zs', hz', q4⟩ := i27 _ _ _ h2
  obtain ⟨z, rfl⟩ : ∃ z, zs = [z] := by
    match zs, hz with
    | [z], _ => exact ⟨z, rfl⟩
  obtain ⟨lo, hi, rfl⟩ := len2 hz'
  simp only [List.cons.injEq, and_true, List.map_cons, List.map_nil] at q0 q1 q2 q3 q4
  obtain ⟨rfl, rfl⟩ := q4
  subst q0 q1 q2 q3
  exact ⟨_, _, _, _, _, _, l, lh, lm, rfl, ⟨s0, s1, s2⟩, t0, t1, t2⟩
theorem agg_of {P : Program} {w : World} {r : Go.Reach} {base : Nat} {t : TypeId} {v : Value} {fl : List (TypeId × Nat)} (hfl : flB P t = some fl) (h : Value.okWide P w r base t v) : ∃ cs : List Value, v = .agg cs.toArray := by
  unfold flB at hfl
  unfold Value.okWide at h
  cases hu : P.underlying t with
  | none => rw [hu] at hfl; cases hfl
  | some d =>
    rw [hu] at hfl h
    cases d <;> try cases hfl
    obtain ⟨cs, rfl, _⟩ := h
    exact ⟨cs.toList, by simp⟩
end

set_option maxRecDepth 100000 in
theorem wearHung_lifted (os : Os) (started : os.Started) (H : Type) (enc : TypeId × Value → H) :
    ReturnsInLeavingWide {} Tryd.checked os 3 .any (fun w args => (Rows.wearHungSpec.pre enc Tryd.prog Tryd.f3 Rows.wearHungRow.domain false w args ∧ laidMetH Tryd.prog Rows.wearHungRow.laid w) ∧ sizedMet enc Tryd.prog Tryd.f3 (OpenSpec.ofChange Rows.wearHungSpec) false w args)
      (Rows.wearHungSpec.post enc Tryd.prog Tryd.f3 false true false false) := by
  refine lifted_of (C := Tryd.checked) (X := fun w _ => laidMetH Tryd.prog Rows.wearHungRow.laid w) (fun _ _ _ hh h => h.of_heap hh) own started Tryd.func3
    (ChangeSpec.witness_shaped (enc := enc) (C := Tryd.checked) (os := os) (X := fun w _ => laidMetH Tryd.prog Rows.wearHungRow.laid w) false (World.laidAll Tryd.prog os Rows.wearHungRow.laid)
      #[.agg #[.slice none 0 0, .slice none 0 0, .int .i64 0, .int .i64 0, .int .i64 0, .slice none 0 0], .agg #[.int .i64 0, .int .i64 0, .int .i64 0, .int .i64 0], .slice none 0 0, .int .u16 0] 8 (World.laidAll_os _ _ _)
      (World.shaped_of_ZipB (by kernel_rfl) (by kernel_rfl)) (by kernel_rfl) (by kernel_rfl) (by kernel_rfl)
      (by rw [MakeChecks.laidMetH_plain _ _ _ (by kernel_rfl)]; exact laidMet_laidAll _ (by kernel_rfl) (by kernel_rfl))) ?_
  intro W base args ds gs before hsh hval0 hW hL
  have hval : ∀ (j : Nat) t v, Tryd.f3.params[j]? = some t → args[j]? = some v → Value.okWide Tryd.prog W .any base t v := hval0
  obtain ⟨z0, z1⟩ := globals_of hsh hL
  have hW' := hW
  obtain ⟨p, q, hA0, hV, rfl, _, _⟩ := hW
  have hA : DataW.TrodAll enc Tryd.prog W 0 (fun _ => true) true [30, 32, 22, 33] args.toList ds p := hA0
  obtain ⟨v0, v1, v2, v3, d0, d1, d2, d3, p0, p1, p2, p3, rfl, rfl, rfl, h0, h1, h2, h3⟩ := trodAll_four hA
  obtain ⟨rfl, rfl⟩ := trodVars_none hV
  obtain ⟨c0, rfl⟩ := agg_of f30 (hval 0 30 v0 rfl rfl)
  obtain ⟨c1, rfl⟩ := agg_of (fl := [(27, 0), (3, 2), (3, 3)]) (by kernel_rfl) (hval 1 32 v1 rfl rfl)
  obtain ⟨a2, len2, cap2, rfl⟩ := okWide_slice u22 (hval 2 22 v2 rfl rfl)
  obtain ⟨bears, rfl, rfl, rfl, wb⟩ := open_int (show Tryd.prog.underlying 33 = some (.int .u16) by kernel_rfl) (hval 3 33 v3 rfl rfl) h3
  obtain ⟨fu0, h0⟩ := h0
  obtain ⟨fu1, h1⟩ := h1
  obtain ⟨fu2, h2⟩ := h2
  have h0 : DataW.trod enc Tryd.prog W 0 (fun _ => true) true fu0 30 c0 = some (d0, p0) := by simpa [Value.cells] using h0
  have h1 : DataW.trod enc Tryd.prog W 0 (fun _ => true) true fu1 32 c1 = some (d1, p1) := by simpa [Value.cells] using h1
  have h2 : DataW.trod enc Tryd.prog W 0 (fun _ => true) true fu2 22 [.slice a2 len2 cap2] = some (d2, p2) := by simpa [Value.cells] using h2
  obtain ⟨vo, vh, vm, st, lo, hi, l, lh, lm, rfl, ⟨so, sh, sm⟩, t0, t1, t2⟩ := skin_of h0
  obtain ⟨zs, hz, rfl⟩ := i32s _ _ _ h1
  obtain ⟨tl, th, g, need, rfl⟩ := len4 hz
  obtain ⟨v2', pts, e2, s2, t3⟩ := pts_of h2
  obtain rfl : v2' = .slice a2 len2 cap2 := by simpa using e2.symm
  have hvo : SlC (LH.all W) 2 vo _ := ⟨t0⟩
  have hvh : SlC (LH.all W) 4 vh _ := ⟨t1⟩
  have hvm : SlC (LH.all W) 4 vm _ := ⟨t2⟩
  have hvp : SlC (LH.all W) 2 (.slice a2 len2 cap2) _ := ⟨t3⟩
  refine runs_of (by kernel_rfl) (c3 (h := LH.all W) (l := l) (lh := lh) (lm := lm) (pts := pts) rfl z0 z1 (bounds_u16 wb)) ?_
  rintro v h' w ⟨x, rfl⟩ hf hs
  exact post_true laidOut rfl (by kernel_rfl) u4 (by kernel_rfl) hW' rfl rfl rfl (below_of x hf hs)

theorem wearHung_holds : Rows.WearHungSaid :=
  OpenClaim.holds_of_wide_leaving 3 Tryd.f3 rfl rfl rfl rfl rfl rfl rfl ⟨rfl, rfl, rfl, rfl, rfl⟩ rfl rfl rfl rfl rfl (by kernel_rfl) Tryd.func3 (by kernel_rfl)
    (of_decide_eq_true (by kernel_rfl)) (by unfold Func.isWrapper; first | (rw [if_pos (by decide +kernel)]; kernel_rfl) | (rw [if_neg (by decide +kernel)]; exact ⟨rfl, rfl⟩))
    (fun os started H enc _ => wearHung_lifted os started H enc)
theorem wearHung_card_holds : Rows.WearHungCardSaid :=
  tied_goes .later [.data, .data] true (true, "be29c413b8d309735d74ec2703ef84450bdfcc400dda172b36c93fa9728f571c") true
    wearHung_holds (by kernel_rfl) wearHung_row_tie rfl ⟨rfl, rfl⟩ (by kernel_rfl) rfl
    (fun f fn hf hfn => by
      obtain rfl : f = 3 := Option.some.inj ((show Tryd.prog.funcNamed "thatch/thatchlaw07.WearHung" = some 3 by kernel_rfl).symm.trans hf) |>.symm
      obtain rfl : fn = Tryd.f3 := (Option.some.inj (Tryd.func3.symm.trans hfn)).symm
      exact ⟨by kernel_rfl, fun j t ht => by
        have hm : t ∈ [30, 32, 22, 33] := by
          have := Array.mem_of_getElem? ht
          exact Array.mem_def.1 this
        have hall : ([30, 32, 22, 33].all fun u => !Tryd.prog.wantsStandIn u) = true := by kernel_rfl
        exact (show Tryd.prog.wantsStandIn t = false by simpa using List.all_eq_true.1 hall t hm)⟩)
    (by kernel_rfl)
#print axioms wearHung_card_holds
end Go.Proofs.YtankmjkogcbnfaaDoor
