/-
  The contract of wear.bounds.
-/
import Derived.Test.YtankmjkogcbnfaaDoorGd
import Derived.Test.YtankmjkogcbnfaaDoorGb
namespace Go.Proofs.YtankmjkogcbnfaaDoor
open Go Go.SL Go.Conc
attribute [local irreducible] putE ofL Look Nth Ev HG Own SubL Wr Sgl EvL LH.upd WL OpS Any Con PopW Pop
abbrev w64 (n : Int) : Int := IntKind.i64.wrap n
theorem isC_iff {t r : Bool} : IsC t r ↔ t = r := ⟨fun h => h.out, fun h => ⟨h⟩⟩

instance c33 {n low high : Int} {h : LH} : FnC Tryd.prog 33 [.int .i64 n, .int .i64 low, .int .i64 high] h (.bool (decide (low ≤ n ∧ n ≤ high))) := by
  refine ⟨Con.intro (m := 3) Tryd.func33 rfl Tryd.ntmps33 rfl (by decide) ?_⟩
  intro main S hS c cs hc
  repeat' (first | (first | refine hS.seq ?_ | refine hS.regionW ?_ | refine W.pop ?_ | refine W.yes ?_ | refine W.no ?_ | refine W.box (fun _ _ => ?_) | refine W.alloc (fun _ _ => ?_) | refine W.store ?_ | refine W.bs (fun _ _ => ?_) | refine W.fn hS (fun _ _ => ?_) | refine WL.nil ?_ | refine R.condT hS ?_ | refine R.condF hS ?_ | refine hS.skip ?_ | refine hS.block ?_ | refine hS.inBlock ?_ | refine R.ret hS ?_ | refine R.fin hS ?_ | refine R.begin hS ?_ | refine R.endRound hS ?_ | refine R.retRound hS ?_ | refine R.retC hS ?_ | refine R.endRangeDone hS ?_ | refine R.endRangeRet hS ?_) | refine W.split (fun _ => ?_) (fun _ => ?_) | refine R.cond hS (fun _ => ?_) (fun _ => ?_))
  all_goals (refine hc _ _ ?_; refine ⟨?_, Ext0.out⟩; clear hc; (try simp only [isC_iff] at *); simp_all [resOf, ] <;> omega)

def farV (a b c d : Int) : Int := w64 (max (w64 (a - c)) (w64 (c - a)) + max (w64 (b - d)) (w64 (d - b)))
instance c78 {a b c d : Int} {h : LH} : FnC Tryd.prog 78 [.agg #[.int .i64 a, .int .i64 b], .agg #[.int .i64 c, .int .i64 d]] h (.int .i64 (farV a b c d)) := by
  refine ⟨Con.intro (m := 2) Tryd.func78 rfl Tryd.ntmps78 rfl (by decide) ?_⟩
  intro main S hS c cs hc
  repeat' (first | (first | refine hS.seq ?_ | refine hS.regionW ?_ | refine W.pop ?_ | refine W.yes ?_ | refine W.no ?_ | refine W.box (fun _ _ => ?_) | refine W.alloc (fun _ _ => ?_) | refine W.store ?_ | refine W.bs (fun _ _ => ?_) | refine W.fn hS (fun _ _ => ?_) | refine WL.nil ?_ | refine R.condT hS ?_ | refine R.condF hS ?_ | refine hS.skip ?_ | refine hS.block ?_ | refine hS.inBlock ?_ | refine R.ret hS ?_ | refine R.fin hS ?_ | refine R.begin hS ?_ | refine R.endRound hS ?_ | refine R.retRound hS ?_ | refine R.retC hS ?_ | refine R.endRangeDone hS ?_ | refine R.endRangeRet hS ?_) | refine W.split (fun _ => ?_) (fun _ => ?_) | refine R.cond hS (fun _ => ?_) (fun _ => ?_))
  all_goals (refine hc _ _ ?_; refine ⟨?_, Ext0.out⟩; clear hc; (try simp only [isC_iff] at *); simp_all [resOf, farV] <;> omega)

instance c28 {n : Int} {h : LH} : FnC Tryd.prog 28 [.int .i64 n] h (.bool (decide (n < -9999999999 ∨ n > 9999999999))) := by
  refine ⟨Con.intro (m := 1) Tryd.func28 rfl Tryd.ntmps28 rfl (by decide) ?_⟩
  intro main S hS c cs hc
  repeat' (first | (first | refine hS.seq ?_ | refine hS.regionW ?_ | refine W.pop ?_ | refine W.yes ?_ | refine W.no ?_ | refine W.box (fun _ _ => ?_) | refine W.alloc (fun _ _ => ?_) | refine W.store ?_ | refine W.bs (fun _ _ => ?_) | refine W.fn hS (fun _ _ => ?_) | refine WL.nil ?_ | refine R.condT hS ?_ | refine R.condF hS ?_ | refine hS.skip ?_ | refine hS.block ?_ | refine hS.inBlock ?_ | refine R.ret hS ?_ | refine R.fin hS ?_ | refine R.begin hS ?_ | refine R.endRound hS ?_ | refine R.retRound hS ?_ | refine R.retC hS ?_ | refine R.endRangeDone hS ?_ | refine R.endRangeRet hS ?_) | refine W.split (fun _ => ?_) (fun _ => ?_) | refine R.cond hS (fun _ => ?_) (fun _ => ?_))
  all_goals (refine hc _ _ ?_; refine ⟨?_, Ext0.out⟩; clear hc; (try simp only [isC_iff] at *); simp_all [resOf, ] <;> omega)

instance c32 {lo hi n : Int} {h : LH} : FnC Tryd.prog 32 [.agg #[.int .i64 lo, .int .i64 hi], .int .i64 n] h (.bool (decide (0 ≤ lo ∧ lo ≤ hi ∧ hi ≤ n))) := by
  refine ⟨Con.intro (m := 2) Tryd.func32 rfl Tryd.ntmps32 rfl (by decide) ?_⟩
  intro main S hS c cs hc
  repeat' (first | (first | refine hS.seq ?_ | refine hS.regionW ?_ | refine W.pop ?_ | refine W.yes ?_ | refine W.no ?_ | refine W.box (fun _ _ => ?_) | refine W.alloc (fun _ _ => ?_) | refine W.store ?_ | refine W.bs (fun _ _ => ?_) | refine W.fn hS (fun _ _ => ?_) | refine WL.nil ?_ | refine R.condT hS ?_ | refine R.condF hS ?_ | refine hS.skip ?_ | refine hS.block ?_ | refine hS.inBlock ?_ | refine R.ret hS ?_ | refine R.fin hS ?_ | refine R.begin hS ?_ | refine R.endRound hS ?_ | refine R.retRound hS ?_ | refine R.retC hS ?_ | refine R.endRangeDone hS ?_ | refine R.endRangeRet hS ?_) | refine W.split (fun _ => ?_) (fun _ => ?_) | refine R.cond hS (fun _ => ?_) (fun _ => ?_))
  all_goals (refine hc _ _ ?_; refine ⟨?_, Ext0.out⟩; clear hc; (try simp only [isC_iff] at *); simp_all [resOf, ] <;> omega)

instance c35 {a b c d : Int} {h : LH} : FnC Tryd.prog 35 [.agg #[.int .i64 a, .int .i64 b], .agg #[.int .i64 c, .int .i64 d]] h (.agg #[.int .i64 (max (w64 (a - d)) 0), .int .i64 (max (w64 (b - c)) 0)]) := by
  refine ⟨Con.intro (m := 2) Tryd.func35 rfl Tryd.ntmps35 rfl (by decide) ?_⟩
  intro main S hS c cs hc
  repeat' (first | (first | refine hS.seq ?_ | refine hS.regionW ?_ | refine W.pop ?_ | refine W.yes ?_ | refine W.no ?_ | refine W.box (fun _ _ => ?_) | refine W.alloc (fun _ _ => ?_) | refine W.store ?_ | refine W.bs (fun _ _ => ?_) | refine W.fn hS (fun _ _ => ?_) | refine WL.nil ?_ | refine R.condT hS ?_ | refine R.condF hS ?_ | refine hS.skip ?_ | refine hS.block ?_ | refine hS.inBlock ?_ | refine R.ret hS ?_ | refine R.fin hS ?_ | refine R.begin hS ?_ | refine R.endRound hS ?_ | refine R.retRound hS ?_ | refine R.retC hS ?_ | refine R.endRangeDone hS ?_ | refine R.endRangeRet hS ?_) | refine W.split (fun _ => ?_) (fun _ => ?_) | refine R.cond hS (fun _ => ?_) (fun _ => ?_))
  all_goals (refine hc _ _ ?_; refine ⟨?_, Ext0.out⟩; clear hc; (try simp only [isC_iff] at *); simp_all [resOf, ] <;> omega)

instance c69 {a b c d : Int} {h : LH} : FnC Tryd.prog 69 [.agg #[.int .i64 a, .int .i64 b, .int .i64 c, .int .i64 d]] h (.bool (decide (a ≥ c ∨ b ≥ d))) := by
  refine ⟨Con.intro (m := 1) Tryd.func69 rfl Tryd.ntmps69 rfl (by decide) ?_⟩
  intro main S hS c cs hc
  repeat' (first | (first | refine hS.seq ?_ | refine hS.regionW ?_ | refine W.pop ?_ | refine W.yes ?_ | refine W.no ?_ | refine W.box (fun _ _ => ?_) | refine W.alloc (fun _ _ => ?_) | refine W.store ?_ | refine W.bs (fun _ _ => ?_) | refine W.fn hS (fun _ _ => ?_) | refine WL.nil ?_ | refine R.condT hS ?_ | refine R.condF hS ?_ | refine hS.skip ?_ | refine hS.block ?_ | refine hS.inBlock ?_ | refine R.ret hS ?_ | refine R.fin hS ?_ | refine R.begin hS ?_ | refine R.endRound hS ?_ | refine R.retRound hS ?_ | refine R.retC hS ?_ | refine R.endRangeDone hS ?_ | refine R.endRangeRet hS ?_) | refine W.split (fun _ => ?_) (fun _ => ?_) | refine R.cond hS (fun _ => ?_) (fun _ => ?_))
  all_goals (refine hc _ _ ?_; refine ⟨?_, Ext0.out⟩; clear hc; (try simp only [isC_iff] at *); simp_all [resOf, ] <;> omega)

instance c74 {a b : Int} {h : LH} : FnC Tryd.prog 74 [.agg #[.int .i64 a, .int .i64 b]] h (.bool (decide ((0 ≤ a ∧ a ≤ 400) ∧ (0 ≤ b ∧ b ≤ 400)))) := by
  refine ⟨Con.intro (m := 1) Tryd.func74 rfl Tryd.ntmps74 rfl (by decide) ?_⟩
  intro main S hS c cs hc
  repeat' (first | (first | refine hS.seq ?_ | refine hS.regionW ?_ | refine W.pop ?_ | refine W.yes ?_ | refine W.no ?_ | refine W.box (fun _ _ => ?_) | refine W.alloc (fun _ _ => ?_) | refine W.store ?_ | refine W.bs (fun _ _ => ?_) | refine W.fn hS (fun _ _ => ?_) | refine WL.nil ?_ | refine R.condT hS ?_ | refine R.condF hS ?_ | refine hS.skip ?_ | refine hS.block ?_ | refine hS.inBlock ?_ | refine R.ret hS ?_ | refine R.fin hS ?_ | refine R.begin hS ?_ | refine R.endRound hS ?_ | refine R.retRound hS ?_ | refine R.retC hS ?_ | refine R.endRangeDone hS ?_ | refine R.endRangeRet hS ?_) | refine W.split (fun _ => ?_) (fun _ => ?_) | refine R.cond hS (fun _ => ?_) (fun _ => ?_))
  all_goals (refine hc _ _ ?_; refine ⟨?_, Ext0.out⟩; clear hc; (try simp only [isC_iff] at *); simp_all [resOf, ] <;> omega)

def leftV (a b c d p q : Int) : Int := w64 (w64 (w64 (c - a) * w64 (q - b)) - w64 (w64 (d - b) * w64 (p - a)))
instance c76 {a b c d p q : Int} {h : LH} : FnC Tryd.prog 76 [.agg #[.int .i64 a, .int .i64 b, .int .i64 c, .int .i64 d], .agg #[.int .i64 p, .int .i64 q]] h (.int .i64 (leftV a b c d p q)) := by
  refine ⟨Con.intro (m := 2) Tryd.func76 rfl Tryd.ntmps76 rfl (by decide) ?_⟩
  intro main S hS c cs hc
  repeat' (first | (first | refine hS.seq ?_ | refine hS.regionW ?_ | refine W.pop ?_ | refine W.yes ?_ | refine W.no ?_ | refine W.box (fun _ _ => ?_) | refine W.alloc (fun _ _ => ?_) | refine W.store ?_ | refine W.bs (fun _ _ => ?_) | refine W.fn hS (fun _ _ => ?_) | refine WL.nil ?_ | refine R.condT hS ?_ | refine R.condF hS ?_ | refine hS.skip ?_ | refine hS.block ?_ | refine hS.inBlock ?_ | refine R.ret hS ?_ | refine R.fin hS ?_ | refine R.begin hS ?_ | refine R.endRound hS ?_ | refine R.retRound hS ?_ | refine R.retC hS ?_ | refine R.endRangeDone hS ?_ | refine R.endRangeRet hS ?_) | refine W.split (fun _ => ?_) (fun _ => ?_) | refine R.cond hS (fun _ => ?_) (fun _ => ?_))
  all_goals (refine hc _ _ ?_; refine ⟨?_, Ext0.out⟩; clear hc; (try simp only [isC_iff] at *); simp_all [resOf, leftV] <;> omega)

instance c77 {a b c d p q : Int} {bp : Nat} {h : LH} {t : TypeId} [hg : HgAt h bp (.cells [.int .i64 p, .int .i64 q].toArray t (0, 0))] :
    FnC Tryd.prog 77 [.agg #[.int .i64 a, .int .i64 b, .int .i64 c, .int .i64 d], .pointer (some ⟨bp, 0, none⟩)] h (.bool (decide (a < p ∧ p < c ∧ b < q ∧ q < d))) := by
  refine ⟨Con.intro (m := 2) Tryd.func77 rfl Tryd.ntmps77 rfl (by decide) ?_⟩
  intro main S hS c cs hc
  repeat' (first | (first | refine hS.seq ?_ | refine hS.regionW ?_ | refine W.pop ?_ | refine W.yes ?_ | refine W.no ?_ | refine W.box (fun _ _ => ?_) | refine W.alloc (fun _ _ => ?_) | refine W.store ?_ | refine W.bs (fun _ _ => ?_) | refine W.fn hS (fun _ _ => ?_) | refine WL.nil ?_ | refine R.condT hS ?_ | refine R.condF hS ?_ | refine hS.skip ?_ | refine hS.block ?_ | refine hS.inBlock ?_ | refine R.ret hS ?_ | refine R.fin hS ?_ | refine R.begin hS ?_ | refine R.endRound hS ?_ | refine R.retRound hS ?_ | refine R.retC hS ?_ | refine R.endRangeDone hS ?_ | refine R.endRangeRet hS ?_) | refine W.split (fun _ => ?_) (fun _ => ?_) | refine R.cond hS (fun _ => ?_) (fun _ => ?_))
  all_goals (refine hc _ _ ?_; refine ⟨?_, Ext0.out⟩; clear hc; (try simp only [isC_iff] at *); simp_all [resOf, ] <;> omega)

instance c177 {a : Int} {h : LH} : FnC Tryd.prog 177 [.int .i64 a] h (.bool false) := by
  refine ⟨Con.intro (m := 1) Tryd.func177 rfl Tryd.ntmps177 rfl (by decide) ?_⟩
  intro main S hS c cs hc
  repeat' (first | (first | refine hS.seq ?_ | refine hS.regionW ?_ | refine W.pop ?_ | refine W.yes ?_ | refine W.no ?_ | refine W.box (fun _ _ => ?_) | refine W.alloc (fun _ _ => ?_) | refine W.store ?_ | refine W.bs (fun _ _ => ?_) | refine W.fn hS (fun _ _ => ?_) | refine WL.nil ?_ | refine R.condT hS ?_ | refine R.condF hS ?_ | refine hS.skip ?_ | refine hS.block ?_ | refine hS.inBlock ?_ | refine R.ret hS ?_ | refine R.fin hS ?_ | refine R.begin hS ?_ | refine R.endRound hS ?_ | refine R.retRound hS ?_ | refine R.retC hS ?_ | refine R.endRangeDone hS ?_ | refine R.endRangeRet hS ?_) | refine W.split (fun _ => ?_) (fun _ => ?_) | refine R.cond hS (fun _ => ?_) (fun _ => ?_))
  all_goals (refine hc _ _ ?_; refine ⟨?_, Ext0.out⟩; clear hc; (try simp only [isC_iff] at *); simp_all [resOf, ] <;> omega)

def cmpV (a b : Int) : Int := if a < b then -1 else if a > b then 1 else 0
instance c115 {a b : Int} {h : LH} : FnC Tryd.prog 115 [.int .i64 a, .int .i64 b] h (.int .i64 (cmpV a b)) := by
  refine ⟨Con.intro (m := 2) Tryd.func115 rfl Tryd.ntmps115 rfl (by decide) ?_⟩
  intro main S hS c cs hc
  repeat' (first | (first | refine hS.seq ?_ | refine hS.regionW ?_ | refine W.pop ?_ | refine W.yes ?_ | refine W.no ?_ | refine W.box (fun _ _ => ?_) | refine W.alloc (fun _ _ => ?_) | refine W.store ?_ | refine W.bs (fun _ _ => ?_) | refine W.fn hS (fun _ _ => ?_) | refine WL.nil ?_ | refine R.condT hS ?_ | refine R.condF hS ?_ | refine hS.skip ?_ | refine hS.block ?_ | refine hS.inBlock ?_ | refine R.ret hS ?_ | refine R.fin hS ?_ | refine R.begin hS ?_ | refine R.endRound hS ?_ | refine R.retRound hS ?_ | refine R.retC hS ?_ | refine R.endRangeDone hS ?_ | refine R.endRangeRet hS ?_) | refine W.split (fun _ => ?_) (fun _ => ?_) | refine R.cond hS (fun _ => ?_) (fun _ => ?_))
  all_goals (refine hc _ _ ?_; refine ⟨?_, Ext0.out⟩; clear hc; (try simp only [isC_iff] at *); simp_all [resOf, cmpV] <;> omega)

instance c111 {a b : Int} {h : LH} : FnC Tryd.prog 111 [.agg #[.int .i64 a, .int .i64 b]] h (.bool (!decide ((0 ≤ a ∧ a ≤ 400) ∧ (0 ≤ b ∧ b ≤ 400)))) := by
  refine ⟨Con.intro (m := 1) Tryd.func111 rfl Tryd.ntmps111 rfl (by decide) ?_⟩
  intro main S hS c cs hc
  repeat' (first | (first | refine hS.seq ?_ | refine hS.regionW ?_ | refine W.pop ?_ | refine W.yes ?_ | refine W.no ?_ | refine W.box (fun _ _ => ?_) | refine W.alloc (fun _ _ => ?_) | refine W.store ?_ | refine W.bs (fun _ _ => ?_) | refine W.fn hS (fun _ _ => ?_) | refine WL.nil ?_ | refine R.condT hS ?_ | refine R.condF hS ?_ | refine hS.skip ?_ | refine hS.block ?_ | refine hS.inBlock ?_ | refine R.ret hS ?_ | refine R.fin hS ?_ | refine R.begin hS ?_ | refine R.endRound hS ?_ | refine R.retRound hS ?_ | refine R.retC hS ?_ | refine R.endRangeDone hS ?_ | refine R.endRangeRet hS ?_) | refine W.split (fun _ => ?_) (fun _ => ?_) | refine R.cond hS (fun _ => ?_) (fun _ => ?_))
  all_goals (refine hc _ _ ?_; refine ⟨?_, Ext0.out⟩; clear hc; (try simp only [isC_iff] at *); simp_all [resOf, ] <;> omega)
end Go.Proofs.YtankmjkogcbnfaaDoor
/-
  Contracts of slices.IndexFunc, ContainsFunc, Index, Contains at the types of package wear; of wear.order.
-/
namespace Go.Proofs.YtankmjkogcbnfaaDoor
open Go Go.SL Go.Conc
attribute [local irreducible] putE ofL Look Nth Ev HG Own SubL Wr Sgl EvL LH.upd WL OpS Any Con PopW Pop
/-- The first number below n that a test lets by; -1 if none does. -/
def findI (q : Nat → Bool) (n : Nat) : Int := match (List.range n).find? q with | some i => (i : Int) | none => -1
theorem findI_some {q : Nat → Bool} {n i : Nat} (hi : i < n) (hq : q i = true) (hb : ∀ j, j < i → q j = false) : findI q n = i := by
  have : (List.range n).find? q = some i := by
    rw [List.find?_eq_some_iff_append]
    refine ⟨hq, List.range i, (List.range (n - i - 1)).map (· + (i + 1)), ?_, ?_⟩
    · have e : n = i + (1 + (n - i - 1)) := by omega
      rw [e, List.range_add, List.range_add]
      simp
      intro a _; omega
    · intro a ha; simp at ha; simp [hb a ha]
  simp [findI, this]
theorem findI_none {q : Nat → Bool} {n : Nat} (hb : ∀ j, j < n → q j = false) : findI q n = -1 := by
  have : (List.range n).find? q = none := by
    rw [List.find?_eq_none]; intro a ha; simp at ha; simp [hb a ha]
  simp [findI, this]
theorem findI_ge {q : Nat → Bool} {n : Nat} : (0 ≤ findI q n) ↔ ∃ i, i < n ∧ q i = true := by
  constructor
  · intro h
    cases hf : (List.range n).find? q with
    | none => simp [findI, hf] at h
    | some i => exact ⟨i, by simpa using List.mem_of_find?_eq_some hf, List.find?_some hf⟩
  · rintro ⟨i, hi, hq⟩
    cases hf : (List.range n).find? q with
    | none => rw [List.find?_eq_none] at hf; exact absurd hq (hf i (by simpa using hi))
    | some i => simp [findI, hf]

theorem c113 {h : LH} {v : Value} {xs : List (List Value)} {g : FuncId} {cap : List Value} {q : Nat → Bool} [GoC Tryd.prog g] [hs : SlAt h 4 v xs] (hn : xs.length ≤ 4611686018427387904) (hq : ∀ (i : Nat) (cs : List Value) (h' : LH) [ElC xs i cs] [Ext0 h h'], FnC Tryd.prog g (.agg cs.toArray :: cap) h' (.bool (q i))) : FnC Tryd.prog 113 [v, .func (.func g) #[] cap.toArray] h (.int .i64 (findI q xs.length)) := by
  refine ⟨Con.intro (m := 2) Tryd.func113 rfl Tryd.ntmps113 rfl (by decide) ?_⟩
  intro main S hS c cs hc
  repeat (first | refine hS.seq ?_ | refine hS.regionW ?_ | refine W.pop ?_ | refine W.yes ?_ | refine W.no ?_ | refine W.box (fun _ _ => ?_) | refine W.alloc (fun _ _ => ?_) | refine W.store ?_ | refine W.bs (fun _ _ => ?_) | refine W.fn hS (fun _ _ => ?_) | refine WL.nil ?_ | refine R.condT hS ?_ | refine R.condF hS ?_ | refine hS.skip ?_ | refine hS.block ?_ | refine hS.inBlock ?_ | refine R.ret hS ?_ | refine R.fin hS ?_ | refine R.begin hS ?_ | refine R.endRound hS ?_ | refine R.retRound hS ?_ | refine R.retC hS ?_ | refine R.endRangeDone hS ?_ | refine R.endRangeRet hS ?_)
  refine hS.loop ?_
  refine loop_ind (fun (i : Nat) => xs.length - i) (fun i E h' => i ≤ xs.length ∧ LookC E 0 v ∧ LookC E 1 (.func (.func g) #[] cap.toArray) ∧ LookC E 7 (.int .i64 xs.length) ∧ LookC E 8 (.int .i64 (i : Nat)) ∧ Ext0 h h' ∧ ∀ j, j < i → q j = false) ?_ 0 _ _ ⟨Nat.zero_le _, inferInstance, inferInstance, inferInstance, inferInstance, inferInstance, by simp⟩
  rintro i E h' ⟨hi, l0, l1, l7, l8, hx, hb⟩ ih
  by_cases hlt : i < xs.length
  · have el : ElC xs i xs[i] := ⟨by simp [hlt]⟩
    have t1 : IsC (decide ((i : Int) < (xs.length : Int))) true := ⟨by simp [hlt]⟩
    have nw : NoW ((i : Int) + 1) := NoW.of (by omega) (by omega)
    repeat (first | refine hS.seq ?_ | refine hS.regionW ?_ | refine W.pop ?_ | refine W.yes ?_ | refine W.no ?_ | refine W.box (fun _ _ => ?_) | refine W.alloc (fun _ _ => ?_) | refine W.store ?_ | refine W.bs (fun _ _ => ?_) | refine W.fn hS (fun _ _ => ?_) | refine WL.nil ?_ | refine R.condT hS ?_ | refine R.condF hS ?_ | refine hS.skip ?_ | refine hS.block ?_ | refine hS.inBlock ?_ | refine R.ret hS ?_ | refine R.fin hS ?_ | refine R.begin hS ?_ | refine R.endRound hS ?_ | refine R.retRound hS ?_ | refine R.retC hS ?_ | refine R.endRangeDone hS ?_ | refine R.endRangeRet hS ?_)
    refine R.cond hS (fun hT => ?_) (fun hF => ?_)
    · repeat (first | refine hS.seq ?_ | refine hS.regionW ?_ | refine W.pop ?_ | refine W.yes ?_ | refine W.no ?_ | refine W.box (fun _ _ => ?_) | refine W.alloc (fun _ _ => ?_) | refine W.store ?_ | refine W.bs (fun _ _ => ?_) | refine W.fn hS (fun _ _ => ?_) | refine WL.nil ?_ | refine R.condT hS ?_ | refine R.condF hS ?_ | refine hS.skip ?_ | refine hS.block ?_ | refine hS.inBlock ?_ | refine R.ret hS ?_ | refine R.fin hS ?_ | refine R.begin hS ?_ | refine R.endRound hS ?_ | refine R.retRound hS ?_ | refine R.retC hS ?_ | refine R.endRangeDone hS ?_ | refine R.endRangeRet hS ?_)
      have e := findI_some (q := q) hlt hT.out hb
      refine hc _ _ ⟨by simp [resOf, e], Ext0.out⟩
    · repeat (first | refine hS.seq ?_ | refine hS.regionW ?_ | refine W.pop ?_ | refine W.yes ?_ | refine W.no ?_ | refine W.box (fun _ _ => ?_) | refine W.alloc (fun _ _ => ?_) | refine W.store ?_ | refine W.bs (fun _ _ => ?_) | refine W.fn hS (fun _ _ => ?_) | refine WL.nil ?_ | refine R.condT hS ?_ | refine R.condF hS ?_ | refine hS.skip ?_ | refine hS.block ?_ | refine hS.inBlock ?_ | refine R.ret hS ?_ | refine R.fin hS ?_ | refine R.begin hS ?_ | refine R.endRound hS ?_ | refine R.retRound hS ?_ | refine R.retC hS ?_ | refine R.endRangeDone hS ?_ | refine R.endRangeRet hS ?_)
      refine hS.inLoop ?_
      refine ih (i + 1) _ _ (by omega) ⟨hlt, inferInstance, inferInstance, inferInstance, by have e : ((i + 1 : Nat) : Int) = (i : Int) + 1 := (by omega); rw [e]; infer_instance, inferInstance, ?_⟩
      intro j hj
      by_cases e : j = i
      · subst e; exact hF.out
      · exact hb j (by omega)
  · have t1 : IsC (decide ((i : Int) < (xs.length : Int))) false := ⟨by simp; omega⟩
    repeat (first | refine hS.seq ?_ | refine hS.regionW ?_ | refine W.pop ?_ | refine W.yes ?_ | refine W.no ?_ | refine W.box (fun _ _ => ?_) | refine W.alloc (fun _ _ => ?_) | refine W.store ?_ | refine W.bs (fun _ _ => ?_) | refine W.fn hS (fun _ _ => ?_) | refine WL.nil ?_ | refine R.condT hS ?_ | refine R.condF hS ?_ | refine hS.skip ?_ | refine hS.block ?_ | refine hS.inBlock ?_ | refine R.ret hS ?_ | refine R.fin hS ?_ | refine R.begin hS ?_ | refine R.endRound hS ?_ | refine R.retRound hS ?_ | refine R.retC hS ?_ | refine R.endRangeDone hS ?_ | refine R.endRangeRet hS ?_)
    refine hS.exit rfl ?_
    repeat (first | refine hS.seq ?_ | refine hS.regionW ?_ | refine W.pop ?_ | refine W.yes ?_ | refine W.no ?_ | refine W.box (fun _ _ => ?_) | refine W.alloc (fun _ _ => ?_) | refine W.store ?_ | refine W.bs (fun _ _ => ?_) | refine W.fn hS (fun _ _ => ?_) | refine WL.nil ?_ | refine R.condT hS ?_ | refine R.condF hS ?_ | refine hS.skip ?_ | refine hS.block ?_ | refine hS.inBlock ?_ | refine R.ret hS ?_ | refine R.fin hS ?_ | refine R.begin hS ?_ | refine R.endRound hS ?_ | refine R.retRound hS ?_ | refine R.retC hS ?_ | refine R.endRangeDone hS ?_ | refine R.endRangeRet hS ?_)
    have e := findI_none (q := q) (n := xs.length) (fun j hj => hb j (by omega))
    refine hc _ _ ⟨by simp [resOf, e], Ext0.out⟩
theorem c175 {h : LH} {v : Value} {xs : List (List Value)} {g : FuncId} {cap : List Value} {q : Nat → Bool} [GoC Tryd.prog g] [hs : SlAt h 2 v xs] (hn : xs.length ≤ 4611686018427387904) (hq : ∀ (i : Nat) (cs : List Value) (h' : LH) [ElC xs i cs] [Ext0 h h'], FnC Tryd.prog g (.agg cs.toArray :: cap) h' (.bool (q i))) : FnC Tryd.prog 175 [v, .func (.func g) #[] cap.toArray] h (.int .i64 (findI q xs.length)) := by
  refine ⟨Con.intro (m := 2) Tryd.func175 rfl Tryd.ntmps175 rfl (by decide) ?_⟩
  intro main S hS c cs hc
  repeat (first | refine hS.seq ?_ | refine hS.regionW ?_ | refine W.pop ?_ | refine W.yes ?_ | refine W.no ?_ | refine W.box (fun _ _ => ?_) | refine W.alloc (fun _ _ => ?_) | refine W.store ?_ | refine W.bs (fun _ _ => ?_) | refine W.fn hS (fun _ _ => ?_) | refine WL.nil ?_ | refine R.condT hS ?_ | refine R.condF hS ?_ | refine hS.skip ?_ | refine hS.block ?_ | refine hS.inBlock ?_ | refine R.ret hS ?_ | refine R.fin hS ?_ | refine R.begin hS ?_ | refine R.endRound hS ?_ | refine R.retRound hS ?_ | refine R.retC hS ?_ | refine R.endRangeDone hS ?_ | refine R.endRangeRet hS ?_)
  refine hS.loop ?_
  refine loop_ind (fun (i : Nat) => xs.length - i) (fun i E h' => i ≤ xs.length ∧ LookC E 0 v ∧ LookC E 1 (.func (.func g) #[] cap.toArray) ∧ LookC E 7 (.int .i64 xs.length) ∧ LookC E 8 (.int .i64 (i : Nat)) ∧ Ext0 h h' ∧ ∀ j, j < i → q j = false) ?_ 0 _ _ ⟨Nat.zero_le _, inferInstance, inferInstance, inferInstance, inferInstance, inferInstance, by simp⟩
  rintro i E h' ⟨hi, l0, l1, l7, l8, hx, hb⟩ ih
  by_cases hlt : i < xs.length
  · have el : ElC xs i xs[i] := ⟨by simp [hlt]⟩
    have t1 : IsC (decide ((i : Int) < (xs.length : Int))) true := ⟨by simp [hlt]⟩
    have nw : NoW ((i : Int) + 1) := NoW.of (by omega) (by omega)
    repeat (first | refine hS.seq ?_ | refine hS.regionW ?_ | refine W.pop ?_ | refine W.yes ?_ | refine W.no ?_ | refine W.box (fun _ _ => ?_) | refine W.alloc (fun _ _ => ?_) | refine W.store ?_ | refine W.bs (fun _ _ => ?_) | refine W.fn hS (fun _ _ => ?_) | refine WL.nil ?_ | refine R.condT hS ?_ | refine R.condF hS ?_ | refine hS.skip ?_ | refine hS.block ?_ | refine hS.inBlock ?_ | refine R.ret hS ?_ | refine R.fin hS ?_ | refine R.begin hS ?_ | refine R.endRound hS ?_ | refine R.retRound hS ?_ | refine R.retC hS ?_ | refine R.endRangeDone hS ?_ | refine R.endRangeRet hS ?_)
    refine R.cond hS (fun hT => ?_) (fun hF => ?_)
    · repeat (first | refine hS.seq ?_ | refine hS.regionW ?_ | refine W.pop ?_ | refine W.yes ?_ | refine W.no ?_ | refine W.box (fun _ _ => ?_) | refine W.alloc (fun _ _ => ?_) | refine W.store ?_ | refine W.bs (fun _ _ => ?_) | refine W.fn hS (fun _ _ => ?_) | refine WL.nil ?_ | refine R.condT hS ?_ | refine R.condF hS ?_ | refine hS.skip ?_ | refine hS.block ?_ | refine hS.inBlock ?_ | refine R.ret hS ?_ | refine R.fin hS ?_ | refine R.begin hS ?_ | refine R.endRound hS ?_ | refine R.retRound hS ?_ | refine R.retC hS ?_ | refine R.endRangeDone hS ?_ | refine R.endRangeRet hS ?_)
      have e := findI_some (q := q) hlt hT.out hb
      refine hc _ _ ⟨by simp [resOf, e], Ext0.out⟩
    · repeat (first | refine hS.seq ?_ | refine hS.regionW ?_ | refine W.pop ?_ | refine W.yes ?_ | refine W.no ?_ | refine W.box (fun _ _ => ?_) | refine W.alloc (fun _ _ => ?_) | refine W.store ?_ | refine W.bs (fun _ _ => ?_) | refine W.fn hS (fun _ _ => ?_) | refine WL.nil ?_ | refine R.condT hS ?_ | refine R.condF hS ?_ | refine hS.skip ?_ | refine hS.block ?_ | refine hS.inBlock ?_ | refine R.ret hS ?_ | refine R.fin hS ?_ | refine R.begin hS ?_ | refine R.endRound hS ?_ | refine R.retRound hS ?_ | refine R.retC hS ?_ | refine R.endRangeDone hS ?_ | refine R.endRangeRet hS ?_)
      refine hS.inLoop ?_
      refine ih (i + 1) _ _ (by omega) ⟨hlt, inferInstance, inferInstance, inferInstance, by have e : ((i + 1 : Nat) : Int) = (i : Int) + 1 := (by omega); rw [e]; infer_instance, inferInstance, ?_⟩
      intro j hj
      by_cases e : j = i
      · subst e; exact hF.out
      · exact hb j (by omega)
  · have t1 : IsC (decide ((i : Int) < (xs.length : Int))) false := ⟨by simp; omega⟩
    repeat (first | refine hS.seq ?_ | refine hS.regionW ?_ | refine W.pop ?_ | refine W.yes ?_ | refine W.no ?_ | refine W.box (fun _ _ => ?_) | refine W.alloc (fun _ _ => ?_) | refine W.store ?_ | refine W.bs (fun _ _ => ?_) | refine W.fn hS (fun _ _ => ?_) | refine WL.nil ?_ | refine R.condT hS ?_ | refine R.condF hS ?_ | refine hS.skip ?_ | refine hS.block ?_ | refine hS.inBlock ?_ | refine R.ret hS ?_ | refine R.fin hS ?_ | refine R.begin hS ?_ | refine R.endRound hS ?_ | refine R.retRound hS ?_ | refine R.retC hS ?_ | refine R.endRangeDone hS ?_ | refine R.endRangeRet hS ?_)
    refine hS.exit rfl ?_
    repeat (first | refine hS.seq ?_ | refine hS.regionW ?_ | refine W.pop ?_ | refine W.yes ?_ | refine W.no ?_ | refine W.box (fun _ _ => ?_) | refine W.alloc (fun _ _ => ?_) | refine W.store ?_ | refine W.bs (fun _ _ => ?_) | refine W.fn hS (fun _ _ => ?_) | refine WL.nil ?_ | refine R.condT hS ?_ | refine R.condF hS ?_ | refine hS.skip ?_ | refine hS.block ?_ | refine hS.inBlock ?_ | refine R.ret hS ?_ | refine R.fin hS ?_ | refine R.begin hS ?_ | refine R.endRound hS ?_ | refine R.retRound hS ?_ | refine R.retC hS ?_ | refine R.endRangeDone hS ?_ | refine R.endRangeRet hS ?_)
    have e := findI_none (q := q) (n := xs.length) (fun j hj => hb j (by omega))
    refine hc _ _ ⟨by simp [resOf, e], Ext0.out⟩
theorem c123 {h : LH} {v : Value} {xs : List (List Value)} {g : FuncId} {cap : List Value} {q : Nat → Bool} [GoC Tryd.prog g] [hs : SlAt h 7 v xs] (hn : xs.length ≤ 4611686018427387904) (hq : ∀ (i : Nat) (cs : List Value) (h' : LH) [ElC xs i cs] [Ext0 h h'], FnC Tryd.prog g (.agg cs.toArray :: cap) h' (.bool (q i))) : FnC Tryd.prog 123 [v, .func (.func g) #[] cap.toArray] h (.int .i64 (findI q xs.length)) := by
  refine ⟨Con.intro (m := 2) Tryd.func123 rfl Tryd.ntmps123 rfl (by decide) ?_⟩
  intro main S hS c cs hc
  repeat (first | refine hS.seq ?_ | refine hS.regionW ?_ | refine W.pop ?_ | refine W.yes ?_ | refine W.no ?_ | refine W.box (fun _ _ => ?_) | refine W.alloc (fun _ _ => ?_) | refine W.store ?_ | refine W.bs (fun _ _ => ?_) | refine W.fn hS (fun _ _ => ?_) | refine WL.nil ?_ | refine R.condT hS ?_ | refine R.condF hS ?_ | refine hS.skip ?_ | refine hS.block ?_ | refine hS.inBlock ?_ | refine R.ret hS ?_ | refine R.fin hS ?_ | refine R.begin hS ?_ | refine R.endRound hS ?_ | refine R.retRound hS ?_ | refine R.retC hS ?_ | refine R.endRangeDone hS ?_ | refine R.endRangeRet hS ?_)
  refine hS.loop ?_
  refine loop_ind (fun (i : Nat) => xs.length - i) (fun i E h' => i ≤ xs.length ∧ LookC E 0 v ∧ LookC E 1 (.func (.func g) #[] cap.toArray) ∧ LookC E 7 (.int .i64 xs.length) ∧ LookC E 8 (.int .i64 (i : Nat)) ∧ Ext0 h h' ∧ ∀ j, j < i → q j = false) ?_ 0 _ _ ⟨Nat.zero_le _, inferInstance, inferInstance, inferInstance, inferInstance, inferInstance, by simp⟩
  rintro i E h' ⟨hi, l0, l1, l7, l8, hx, hb⟩ ih
  by_cases hlt : i < xs.length
  · have el : ElC xs i xs[i] := ⟨by simp [hlt]⟩
    have t1 : IsC (decide ((i : Int) < (xs.length : Int))) true := ⟨by simp [hlt]⟩
    have nw : NoW ((i : Int) + 1) := NoW.of (by omega) (by omega)
    repeat (first | refine hS.seq ?_ | refine hS.regionW ?_ | refine W.pop ?_ | refine W.yes ?_ | refine W.no ?_ | refine W.box (fun _ _ => ?_) | refine W.alloc (fun _ _ => ?_) | refine W.store ?_ | refine W.bs (fun _ _ => ?_) | refine W.fn hS (fun _ _ => ?_) | refine WL.nil ?_ | refine R.condT hS ?_ | refine R.condF hS ?_ | refine hS.skip ?_ | refine hS.block ?_ | refine hS.inBlock ?_ | refine R.ret hS ?_ | refine R.fin hS ?_ | refine R.begin hS ?_ | refine R.endRound hS ?_ | refine R.retRound hS ?_ | refine R.retC hS ?_ | refine R.endRangeDone hS ?_ | refine R.endRangeRet hS ?_)
    refine R.cond hS (fun hT => ?_) (fun hF => ?_)
    · repeat (first | refine hS.seq ?_ | refine hS.regionW ?_ | refine W.pop ?_ | refine W.yes ?_ | refine W.no ?_ | refine W.box (fun _ _ => ?_) | refine W.alloc (fun _ _ => ?_) | refine W.store ?_ | refine W.bs (fun _ _ => ?_) | refine W.fn hS (fun _ _ => ?_) | refine WL.nil ?_ | refine R.condT hS ?_ | refine R.condF hS ?_ | refine hS.skip ?_ | refine hS.block ?_ | refine hS.inBlock ?_ | refine R.ret hS ?_ | refine R.fin hS ?_ | refine R.begin hS ?_ | refine R.endRound hS ?_ | refine R.retRound hS ?_ | refine R.retC hS ?_ | refine R.endRangeDone hS ?_ | refine R.endRangeRet hS ?_)
      have e := findI_some (q := q) hlt hT.out hb
      refine hc _ _ ⟨by simp [resOf, e], Ext0.out⟩
    · repeat (first | refine hS.seq ?_ | refine hS.regionW ?_ | refine W.pop ?_ | refine W.yes ?_ | refine W.no ?_ | refine W.box (fun _ _ => ?_) | refine W.alloc (fun _ _ => ?_) | refine W.store ?_ | refine W.bs (fun _ _ => ?_) | refine W.fn hS (fun _ _ => ?_) | refine WL.nil ?_ | refine R.condT hS ?_ | refine R.condF hS ?_ | refine hS.skip ?_ | refine hS.block ?_ | refine hS.inBlock ?_ | refine R.ret hS ?_ | refine R.fin hS ?_ | refine R.begin hS ?_ | refine R.endRound hS ?_ | refine R.retRound hS ?_ | refine R.retC hS ?_ | refine R.endRangeDone hS ?_ | refine R.endRangeRet hS ?_)
      refine hS.inLoop ?_
      refine ih (i + 1) _ _ (by omega) ⟨hlt, inferInstance, inferInstance, inferInstance, by have e : ((i + 1 : Nat) : Int) = (i : Int) + 1 := (by omega); rw [e]; infer_instance, inferInstance, ?_⟩
      intro j hj
      by_cases e : j = i
      · subst e; exact hF.out
      · exact hb j (by omega)
  · have t1 : IsC (decide ((i : Int) < (xs.length : Int))) false := ⟨by simp; omega⟩
    repeat (first | refine hS.seq ?_ | refine hS.regionW ?_ | refine W.pop ?_ | refine W.yes ?_ | refine W.no ?_ | refine W.box (fun _ _ => ?_) | refine W.alloc (fun _ _ => ?_) | refine W.store ?_ | refine W.bs (fun _ _ => ?_) | refine W.fn hS (fun _ _ => ?_) | refine WL.nil ?_ | refine R.condT hS ?_ | refine R.condF hS ?_ | refine hS.skip ?_ | refine hS.block ?_ | refine hS.inBlock ?_ | refine R.ret hS ?_ | refine R.fin hS ?_ | refine R.begin hS ?_ | refine R.endRound hS ?_ | refine R.retRound hS ?_ | refine R.retC hS ?_ | refine R.endRangeDone hS ?_ | refine R.endRangeRet hS ?_)
    refine hS.exit rfl ?_
    repeat (first | refine hS.seq ?_ | refine hS.regionW ?_ | refine W.pop ?_ | refine W.yes ?_ | refine W.no ?_ | refine W.box (fun _ _ => ?_) | refine W.alloc (fun _ _ => ?_) | refine W.store ?_ | refine W.bs (fun _ _ => ?_) | refine W.fn hS (fun _ _ => ?_) | refine WL.nil ?_ | refine R.condT hS ?_ | refine R.condF hS ?_ | refine hS.skip ?_ | refine hS.block ?_ | refine hS.inBlock ?_ | refine R.ret hS ?_ | refine R.fin hS ?_ | refine R.begin hS ?_ | refine R.endRound hS ?_ | refine R.retRound hS ?_ | refine R.retC hS ?_ | refine R.endRangeDone hS ?_ | refine R.endRangeRet hS ?_)
    have e := findI_none (q := q) (n := xs.length) (fun j hj => hb j (by omega))
    refine hc _ _ ⟨by simp [resOf, e], Ext0.out⟩
theorem c179 {h : LH} {v : Value} {xs : List (List Value)} {g : FuncId} {cap : List Value} {q : Nat → Bool} [GoC Tryd.prog g] [hs : SlAt h 3 v xs] (hn : xs.length ≤ 4611686018427387904) (hq : ∀ (i : Nat) (cs : List Value) (h' : LH) [ElC xs i cs] [Ext0 h h'], FnC Tryd.prog g (.agg cs.toArray :: cap) h' (.bool (q i))) : FnC Tryd.prog 179 [v, .func (.func g) #[] cap.toArray] h (.int .i64 (findI q xs.length)) := by
  refine ⟨Con.intro (m := 2) Tryd.func179 rfl Tryd.ntmps179 rfl (by decide) ?_⟩
  intro main S hS c cs hc
  repeat (first | refine hS.seq ?_ | refine hS.regionW ?_ | refine W.pop ?_ | refine W.yes ?_ | refine W.no ?_ | refine W.box (fun _ _ => ?_) | refine W.alloc (fun _ _ => ?_) | refine W.store ?_ | refine W.bs (fun _ _ => ?_) | refine W.fn hS (fun _ _ => ?_) | refine WL.nil ?_ | refine R.condT hS ?_ | refine R.condF hS ?_ | refine hS.skip ?_ | refine hS.block ?_ | refine hS.inBlock ?_ | refine R.ret hS ?_ | refine R.fin hS ?_ | refine R.begin hS ?_ | refine R.endRound hS ?_ | refine R.retRound hS ?_ | refine R.retC hS ?_ | refine R.endRangeDone hS ?_ | refine R.endRangeRet hS ?_)
  refine hS.loop ?_
  refine loop_ind (fun (i : Nat) => xs.length - i) (fun i E h' => i ≤ xs.length ∧ LookC E 0 v ∧ LookC E 1 (.func (.func g) #[] cap.toArray) ∧ LookC E 7 (.int .i64 xs.length) ∧ LookC E 8 (.int .i64 (i : Nat)) ∧ Ext0 h h' ∧ ∀ j, j < i → q j = false) ?_ 0 _ _ ⟨Nat.zero_le _, inferInstance, inferInstance, inferInstance, inferInstance, inferInstance, by simp⟩
  rintro i E h' ⟨hi, l0, l1, l7, l8, hx, hb⟩ ih
  by_cases hlt : i < xs.length
  · have el : ElC xs i xs[i] := ⟨by simp [hlt]⟩
    have t1 : IsC (decide ((i : Int) < (xs.length : Int))) true := ⟨by simp [hlt]⟩
    have nw : NoW ((i : Int) + 1) := NoW.of (by omega) (by omega)
    repeat (first | refine hS.seq ?_ | refine hS.regionW ?_ | refine W.pop ?_ | refine W.yes ?_ | refine W.no ?_ | refine W.box (fun _ _ => ?_) | refine W.alloc (fun _ _ => ?_) | refine W.store ?_ | refine W.bs (fun _ _ => ?_) | refine W.fn hS (fun _ _ => ?_) | refine WL.nil ?_ | refine R.condT hS ?_ | refine R.condF hS ?_ | refine hS.skip ?_ | refine hS.block ?_ | refine hS.inBlock ?_ | refine R.ret hS ?_ | refine R.fin hS ?_ | refine R.begin hS ?_ | refine R.endRound hS ?_ | refine R.retRound hS ?_ | refine R.retC hS ?_ | refine R.endRangeDone hS ?_ | refine R.endRangeRet hS ?_)
    refine R.cond hS (fun hT => ?_) (fun hF => ?_)
    · repeat (first | refine hS.seq ?_ | refine hS.regionW ?_ | refine W.pop ?_ | refine W.yes ?_ | refine W.no ?_ | refine W.box (fun _ _ => ?_) | refine W.alloc (fun _ _ => ?_) | refine W.store ?_ | refine W.bs (fun _ _ => ?_) | refine W.fn hS (fun _ _ => ?_) | refine WL.nil ?_ | refine R.condT hS ?_ | refine R.condF hS ?_ | refine hS.skip ?_ | refine hS.block ?_ | refine hS.inBlock ?_ | refine R.ret hS ?_ | refine R.fin hS ?_ | refine R.begin hS ?_ | refine R.endRound hS ?_ | refine R.retRound hS ?_ | refine R.retC hS ?_ | refine R.endRangeDone hS ?_ | refine R.endRangeRet hS ?_)
      have e := findI_some (q := q) hlt hT.out hb
      refine hc _ _ ⟨by simp [resOf, e], Ext0.out⟩
    · repeat (first | refine hS.seq ?_ | refine hS.regionW ?_ | refine W.pop ?_ | refine W.yes ?_ | refine W.no ?_ | refine W.box (fun _ _ => ?_) | refine W.alloc (fun _ _ => ?_) | refine W.store ?_ | refine W.bs (fun _ _ => ?_) | refine W.fn hS (fun _ _ => ?_) | refine WL.nil ?_ | refine R.condT hS ?_ | refine R.condF hS ?_ | refine hS.skip ?_ | refine hS.block ?_ | refine hS.inBlock ?_ | refine R.ret hS ?_ | refine R.fin hS ?_ | refine R.begin hS ?_ | refine R.endRound hS ?_ | refine R.retRound hS ?_ | refine R.retC hS ?_ | refine R.endRangeDone hS ?_ | refine R.endRangeRet hS ?_)
      refine hS.inLoop ?_
      refine ih (i + 1) _ _ (by omega) ⟨hlt, inferInstance, inferInstance, inferInstance, by have e : ((i + 1 : Nat) : Int) = (i : Int) + 1 := (by omega); rw [e]; infer_instance, inferInstance, ?_⟩
      intro j hj
      by_cases e : j = i
      · subst e; exact hF.out
      · exact hb j (by omega)
  · have t1 : IsC (decide ((i : Int) < (xs.length : Int))) false := ⟨by simp; omega⟩
    repeat (first | refine hS.seq ?_ | refine hS.regionW ?_ | refine W.pop ?_ | refine W.yes ?_ | refine W.no ?_ | refine W.box (fun _ _ => ?_) | refine W.alloc (fun _ _ => ?_) | refine W.store ?_ | refine W.bs (fun _ _ => ?_) | refine W.fn hS (fun _ _ => ?_) | refine WL.nil ?_ | refine R.condT hS ?_ | refine R.condF hS ?_ | refine hS.skip ?_ | refine hS.block ?_ | refine hS.inBlock ?_ | refine R.ret hS ?_ | refine R.fin hS ?_ | refine R.begin hS ?_ | refine R.endRound hS ?_ | refine R.retRound hS ?_ | refine R.retC hS ?_ | refine R.endRangeDone hS ?_ | refine R.endRangeRet hS ?_)
    refine hS.exit rfl ?_
    repeat (first | refine hS.seq ?_ | refine hS.regionW ?_ | refine W.pop ?_ | refine W.yes ?_ | refine W.no ?_ | refine W.box (fun _ _ => ?_) | refine W.alloc (fun _ _ => ?_) | refine W.store ?_ | refine W.bs (fun _ _ => ?_) | refine W.fn hS (fun _ _ => ?_) | refine WL.nil ?_ | refine R.condT hS ?_ | refine R.condF hS ?_ | refine hS.skip ?_ | refine hS.block ?_ | refine hS.inBlock ?_ | refine R.ret hS ?_ | refine R.fin hS ?_ | refine R.begin hS ?_ | refine R.endRound hS ?_ | refine R.retRound hS ?_ | refine R.retC hS ?_ | refine R.endRangeDone hS ?_ | refine R.endRangeRet hS ?_)
    have e := findI_none (q := q) (n := xs.length) (fun j hj => hb j (by omega))
    refine hc _ _ ⟨by simp [resOf, e], Ext0.out⟩

/-- Element i of a list. -/
class IxC {α : Type} (l : List α) (i : Nat) (x : outParam α) : Prop where out : l[i]? = some x
theorem any_of {α : Type} {l : List α} {p : α → Bool} : decide (findI (fun i => match l[i]? with | some x => p x | none => false) l.length ≥ 0) = l.any p := by
  rw [Bool.eq_iff_iff, decide_eq_true_iff, ge_iff_le, findI_ge, List.any_eq_true]
  constructor
  · rintro ⟨i, hi, hq⟩
    simp only [List.getElem?_eq_getElem hi] at hq
    exact ⟨l[i], List.getElem_mem hi, hq⟩
  · rintro ⟨x, hx, hp⟩
    obtain ⟨i, hi, rfl⟩ := List.mem_iff_getElem.1 hx
    exact ⟨i, hi, by simp only [List.getElem?_eq_getElem hi]; exact hp⟩
theorem c68 {α : Type} {toC : α → List Value} {l : List α} {p : α → Bool} {h : LH} {v : Value} {g : FuncId} {cap : List Value} [GoC Tryd.prog g] [hs : SlC h 4 v (l.map toC)] (hn : l.length ≤ 4611686018427387904) (hq : ∀ x ∈ l, ∀ (h' : LH) [Ext0 h h'], FnC Tryd.prog g (.agg (toC x).toArray :: cap) h' (.bool (p x))) : FnC Tryd.prog 68 [v, .func (.func g) #[] cap.toArray] h (.bool (l.any p)) := by
  have hs' : SlAt h 4 v (l.map toC) := ⟨hs.out⟩
  have := c113 (h := h) (v := v) (g := g) (cap := cap) (xs := l.map toC) (q := fun i => match l[i]? with | some x => p x | none => false) (by simpa using hn) (fun i cs h' hi hx => by
    obtain ⟨x, hx1, rfl⟩ : ∃ x, l[i]? = some x ∧ toC x = cs := by have := hi.out; simpa using this
    simp only [hx1]
    exact hq x (List.mem_of_getElem? hx1) h')
  rw [List.length_map] at this
  refine ⟨Con.intro (m := 2) Tryd.func68 rfl Tryd.ntmps68 rfl (by decide) ?_⟩
  intro main S hS c cs hc
  repeat' (first | (first | refine hS.seq ?_ | refine hS.regionW ?_ | refine W.pop ?_ | refine W.yes ?_ | refine W.no ?_ | refine W.box (fun _ _ => ?_) | refine W.alloc (fun _ _ => ?_) | refine W.store ?_ | refine W.bs (fun _ _ => ?_) | refine W.fn hS (fun _ _ => ?_) | refine WL.nil ?_ | refine R.condT hS ?_ | refine R.condF hS ?_ | refine hS.skip ?_ | refine hS.block ?_ | refine hS.inBlock ?_ | refine R.ret hS ?_ | refine R.fin hS ?_ | refine R.begin hS ?_ | refine R.endRound hS ?_ | refine R.retRound hS ?_ | refine R.retC hS ?_ | refine R.endRangeDone hS ?_ | refine R.endRangeRet hS ?_) | refine W.split (fun _ => ?_) (fun _ => ?_) | refine R.cond hS (fun _ => ?_) (fun _ => ?_))
  refine hc _ _ ⟨?_, Ext0.out⟩
  simp [resOf, any_of]
theorem c110 {α : Type} {toC : α → List Value} {l : List α} {p : α → Bool} {h : LH} {v : Value} {g : FuncId} {cap : List Value} [GoC Tryd.prog g] [hs : SlC h 2 v (l.map toC)] (hn : l.length ≤ 4611686018427387904) (hq : ∀ x ∈ l, ∀ (h' : LH) [Ext0 h h'], FnC Tryd.prog g (.agg (toC x).toArray :: cap) h' (.bool (p x))) : FnC Tryd.prog 110 [v, .func (.func g) #[] cap.toArray] h (.bool (l.any p)) := by
  have hs' : SlAt h 2 v (l.map toC) := ⟨hs.out⟩
  have := c175 (h := h) (v := v) (g := g) (cap := cap) (xs := l.map toC) (q := fun i => match l[i]? with | some x => p x | none => false) (by simpa using hn) (fun i cs h' hi hx => by
    obtain ⟨x, hx1, rfl⟩ : ∃ x, l[i]? = some x ∧ toC x = cs := by have := hi.out; simpa using this
    simp only [hx1]
    exact hq x (List.mem_of_getElem? hx1) h')
  rw [List.length_map] at this
  refine ⟨Con.intro (m := 2) Tryd.func110 rfl Tryd.ntmps110 rfl (by decide) ?_⟩
  intro main S hS c cs hc
  repeat' (first | (first | refine hS.seq ?_ | refine hS.regionW ?_ | refine W.pop ?_ | refine W.yes ?_ | refine W.no ?_ | refine W.box (fun _ _ => ?_) | refine W.alloc (fun _ _ => ?_) | refine W.store ?_ | refine W.bs (fun _ _ => ?_) | refine W.fn hS (fun _ _ => ?_) | refine WL.nil ?_ | refine R.condT hS ?_ | refine R.condF hS ?_ | refine hS.skip ?_ | refine hS.block ?_ | refine hS.inBlock ?_ | refine R.ret hS ?_ | refine R.fin hS ?_ | refine R.begin hS ?_ | refine R.endRound hS ?_ | refine R.retRound hS ?_ | refine R.retC hS ?_ | refine R.endRangeDone hS ?_ | refine R.endRangeRet hS ?_) | refine W.split (fun _ => ?_) (fun _ => ?_) | refine R.cond hS (fun _ => ?_) (fun _ => ?_))
  refine hc _ _ ⟨?_, Ext0.out⟩
  simp [resOf, any_of]
end Go.Proofs.YtankmjkogcbnfaaDoor
/-
  Contracts of cmp.Or, wear.order, slices.Index and Contains of points.
-/
namespace Go.Proofs.YtankmjkogcbnfaaDoor
open Go Go.SL Go.Conc
attribute [local irreducible] putE ofL Look Nth Ev HG Own SubL Wr Sgl EvL LH.upd WL OpS Any Con PopW Pop
instance slBlock {h : LH} {p m : Nat} {c : List Value} {e : TypeId} {f : Nat × Nat} {xs : List (List Value)} [hg : HGC h p (.cells c.toArray e f)] [hc : ChC 1 c m xs] : SlC h 1 (.slice (some ⟨p, 0, none⟩) m m) xs := ⟨by
  obtain ⟨h1, h2, h3⟩ := hc.out
  refine ⟨some ⟨p, 0, none⟩, m, by rw [h1], by omega, fun i cs hi => ⟨p, 0, c.toArray, e, f, rfl, hg.out, (h3 i cs hi).1, ?_, by simpa using (h3 i cs hi).2⟩⟩
  have := (List.getElem?_eq_some_iff.1 hi).1
  simp; omega⟩
instance elH {c : List Value} {xs : List (List Value)} : ElC (c :: xs) 0 c := ⟨rfl⟩
instance elS {x c : List Value} {xs : List (List Value)} {i : Nat} [p : ElC xs i c] : ElC (x :: xs) (i + 1) c := ⟨by simpa using p.out⟩

def orV (a b : Int) : Int := if a = 0 then b else a
instance c114 {a b : Int} {h : LH} {v : Value} [hs : SlC h 1 v [[.int .i64 a], [.int .i64 b]]] : FnC Tryd.prog 114 [v] h (.int .i64 (orV a b)) := by
  have hs' : SlAt h 1 v [[.int .i64 a], [.int .i64 b]] := ⟨hs.out⟩
  have t0 : IsC (decide ((0 : Int) < (([[.int .i64 a], [.int .i64 b]] : List (List Value)).length : Int))) true := ⟨rfl⟩
  have t1 : IsC (decide ((0 + 1 : Int) < (([[.int .i64 a], [.int .i64 b]] : List (List Value)).length : Int))) true := ⟨rfl⟩
  have t2 : IsC (decide ((0 + 1 + 1 : Int) < (([[.int .i64 a], [.int .i64 b]] : List (List Value)).length : Int))) false := ⟨rfl⟩
  have w1 : NoW ((0 : Int) + 1) := .of (by omega) (by omega)
  have w2 : NoW ((0 : Int) + 1 + 1) := .of (by omega) (by omega)
  have n1 : NatC ((0 : Int) + 1) 1 := ⟨rfl⟩
  refine ⟨Con.intro (m := 1) Tryd.func114 rfl Tryd.ntmps114 rfl (by decide) ?_⟩
  intro main S hS c cs hc
  repeat (first | refine hS.seq ?_ | refine hS.regionW ?_ | refine W.pop ?_ | refine W.yes ?_ | refine W.no ?_ | refine W.box (fun _ _ => ?_) | refine W.alloc (fun _ _ => ?_) | refine W.store ?_ | refine W.bs (fun _ _ => ?_) | refine W.fn hS (fun _ _ => ?_) | refine WL.nil ?_ | refine R.condT hS ?_ | refine R.condF hS ?_ | refine hS.skip ?_ | refine hS.block ?_ | refine hS.inBlock ?_ | refine R.ret hS ?_ | refine R.fin hS ?_ | refine R.begin hS ?_ | refine R.endRound hS ?_ | refine R.retRound hS ?_ | refine R.retC hS ?_ | refine R.endRangeDone hS ?_ | refine R.endRangeRet hS ?_)
  refine hS.loop ?_
  repeat (first | refine hS.seq ?_ | refine hS.regionW ?_ | refine W.pop ?_ | refine W.yes ?_ | refine W.no ?_ | refine W.box (fun _ _ => ?_) | refine W.alloc (fun _ _ => ?_) | refine W.store ?_ | refine W.bs (fun _ _ => ?_) | refine W.fn hS (fun _ _ => ?_) | refine WL.nil ?_ | refine R.condT hS ?_ | refine R.condF hS ?_ | refine hS.skip ?_ | refine hS.block ?_ | refine hS.inBlock ?_ | refine R.ret hS ?_ | refine R.fin hS ?_ | refine R.begin hS ?_ | refine R.endRound hS ?_ | refine R.retRound hS ?_ | refine R.retC hS ?_ | refine R.endRangeDone hS ?_ | refine R.endRangeRet hS ?_)
  refine R.cond hS (fun hT => ?_) (fun hF => ?_)
  · repeat (first | refine hS.seq ?_ | refine hS.regionW ?_ | refine W.pop ?_ | refine W.yes ?_ | refine W.no ?_ | refine W.box (fun _ _ => ?_) | refine W.alloc (fun _ _ => ?_) | refine W.store ?_ | refine W.bs (fun _ _ => ?_) | refine W.fn hS (fun _ _ => ?_) | refine WL.nil ?_ | refine R.condT hS ?_ | refine R.condF hS ?_ | refine hS.skip ?_ | refine hS.block ?_ | refine hS.inBlock ?_ | refine R.ret hS ?_ | refine R.fin hS ?_ | refine R.begin hS ?_ | refine R.endRound hS ?_ | refine R.retRound hS ?_ | refine R.retC hS ?_ | refine R.endRangeDone hS ?_ | refine R.endRangeRet hS ?_)
    refine hc _ _ ⟨?_, Ext0.out⟩
    have := hT.out
    simp at this
    simp [resOf, orV, this]
  · have ea : a = 0 := by simpa using hF.out
    repeat (first | refine hS.seq ?_ | refine hS.regionW ?_ | refine W.pop ?_ | refine W.yes ?_ | refine W.no ?_ | refine W.box (fun _ _ => ?_) | refine W.alloc (fun _ _ => ?_) | refine W.store ?_ | refine W.bs (fun _ _ => ?_) | refine W.fn hS (fun _ _ => ?_) | refine WL.nil ?_ | refine R.condT hS ?_ | refine R.condF hS ?_ | refine hS.skip ?_ | refine hS.block ?_ | refine hS.inBlock ?_ | refine R.ret hS ?_ | refine R.fin hS ?_ | refine R.begin hS ?_ | refine R.endRound hS ?_ | refine R.retRound hS ?_ | refine R.retC hS ?_ | refine R.endRangeDone hS ?_ | refine R.endRangeRet hS ?_)
    refine hS.inLoop ?_
    repeat (first | refine hS.seq ?_ | refine hS.regionW ?_ | refine W.pop ?_ | refine W.yes ?_ | refine W.no ?_ | refine W.box (fun _ _ => ?_) | refine W.alloc (fun _ _ => ?_) | refine W.store ?_ | refine W.bs (fun _ _ => ?_) | refine W.fn hS (fun _ _ => ?_) | refine WL.nil ?_ | refine R.condT hS ?_ | refine R.condF hS ?_ | refine hS.skip ?_ | refine hS.block ?_ | refine hS.inBlock ?_ | refine R.ret hS ?_ | refine R.fin hS ?_ | refine R.begin hS ?_ | refine R.endRound hS ?_ | refine R.retRound hS ?_ | refine R.retC hS ?_ | refine R.endRangeDone hS ?_ | refine R.endRangeRet hS ?_)
    refine R.cond hS (fun hT => ?_) (fun hF' => ?_)
    · repeat (first | refine hS.seq ?_ | refine hS.regionW ?_ | refine W.pop ?_ | refine W.yes ?_ | refine W.no ?_ | refine W.box (fun _ _ => ?_) | refine W.alloc (fun _ _ => ?_) | refine W.store ?_ | refine W.bs (fun _ _ => ?_) | refine W.fn hS (fun _ _ => ?_) | refine WL.nil ?_ | refine R.condT hS ?_ | refine R.condF hS ?_ | refine hS.skip ?_ | refine hS.block ?_ | refine hS.inBlock ?_ | refine R.ret hS ?_ | refine R.fin hS ?_ | refine R.begin hS ?_ | refine R.endRound hS ?_ | refine R.retRound hS ?_ | refine R.retC hS ?_ | refine R.endRangeDone hS ?_ | refine R.endRangeRet hS ?_)
      refine hc _ _ ⟨?_, Ext0.out⟩
      simp [resOf, orV, ea]
    · have eb : b = 0 := by simpa using hF'.out
      repeat (first | refine hS.seq ?_ | refine hS.regionW ?_ | refine W.pop ?_ | refine W.yes ?_ | refine W.no ?_ | refine W.box (fun _ _ => ?_) | refine W.alloc (fun _ _ => ?_) | refine W.store ?_ | refine W.bs (fun _ _ => ?_) | refine W.fn hS (fun _ _ => ?_) | refine WL.nil ?_ | refine R.condT hS ?_ | refine R.condF hS ?_ | refine hS.skip ?_ | refine hS.block ?_ | refine hS.inBlock ?_ | refine R.ret hS ?_ | refine R.fin hS ?_ | refine R.begin hS ?_ | refine R.endRound hS ?_ | refine R.retRound hS ?_ | refine R.retC hS ?_ | refine R.endRangeDone hS ?_ | refine R.endRangeRet hS ?_)
      refine hS.inLoop ?_
      repeat (first | refine hS.seq ?_ | refine hS.regionW ?_ | refine W.pop ?_ | refine W.yes ?_ | refine W.no ?_ | refine W.box (fun _ _ => ?_) | refine W.alloc (fun _ _ => ?_) | refine W.store ?_ | refine W.bs (fun _ _ => ?_) | refine W.fn hS (fun _ _ => ?_) | refine WL.nil ?_ | refine R.condT hS ?_ | refine R.condF hS ?_ | refine hS.skip ?_ | refine hS.block ?_ | refine hS.inBlock ?_ | refine R.ret hS ?_ | refine R.fin hS ?_ | refine R.begin hS ?_ | refine R.endRound hS ?_ | refine R.retRound hS ?_ | refine R.retC hS ?_ | refine R.endRangeDone hS ?_ | refine R.endRangeRet hS ?_)
      refine hS.exit rfl ?_
      repeat (first | refine hS.seq ?_ | refine hS.regionW ?_ | refine W.pop ?_ | refine W.yes ?_ | refine W.no ?_ | refine W.box (fun _ _ => ?_) | refine W.alloc (fun _ _ => ?_) | refine W.store ?_ | refine W.bs (fun _ _ => ?_) | refine W.fn hS (fun _ _ => ?_) | refine WL.nil ?_ | refine R.condT hS ?_ | refine R.condF hS ?_ | refine hS.skip ?_ | refine hS.block ?_ | refine hS.inBlock ?_ | refine R.ret hS ?_ | refine R.fin hS ?_ | refine R.begin hS ?_ | refine R.endRound hS ?_ | refine R.retRound hS ?_ | refine R.retC hS ?_ | refine R.endRangeDone hS ?_ | refine R.endRangeRet hS ?_)
      refine hc _ _ ⟨?_, Ext0.out⟩
      simp [resOf, orV, ea, eb]

def orderV (a b c d : Int) : Int := orV (cmpV b d) (cmpV a c)
instance c70 {a b c d : Int} {h : LH} : FnC Tryd.prog 70 [.agg #[.int .i64 a, .int .i64 b], .agg #[.int .i64 c, .int .i64 d]] h (.int .i64 (orderV a b c d)) := by
  refine ⟨Con.intro (m := 2) Tryd.func70 rfl Tryd.ntmps70 rfl (by decide) ?_⟩
  intro main S hS c cs hc
  repeat (first | refine hS.seq ?_ | refine hS.regionW ?_ | refine W.pop ?_ | refine W.yes ?_ | refine W.no ?_ | refine W.box (fun _ _ => ?_) | refine W.alloc (fun _ _ => ?_) | refine W.store ?_ | refine W.bs (fun _ _ => ?_) | refine W.fn hS (fun _ _ => ?_) | refine WL.nil ?_ | refine R.condT hS ?_ | refine R.condF hS ?_ | refine hS.skip ?_ | refine hS.block ?_ | refine hS.inBlock ?_ | refine R.ret hS ?_ | refine R.fin hS ?_ | refine R.begin hS ?_ | refine R.endRound hS ?_ | refine R.retRound hS ?_ | refine R.retC hS ?_ | refine R.endRangeDone hS ?_ | refine R.endRangeRet hS ?_)
  refine hS.regionA mixed [] ?_
  refine A.take 0 rfl (by kernel_rfl) (by intro _ _ e; cases e) ?_
  refine A.take 1 rfl (by kernel_rfl) (by intro _ _ e; cases e) ?_
  refine A.take 2 rfl (by kernel_rfl) (by intro _ _ e; cases e) ?_
  refine A.take 3 rfl (by kernel_rfl) (by intro _ _ e; cases e) ?_
  refine A.take 5 rfl (by kernel_rfl) (by intro _ _ e; cases e) ?_
  refine A.take 6 rfl (by kernel_rfl) (by intro _ _ e; cases e) ?_
  refine A.take 7 rfl (by kernel_rfl) (by intro _ _ e; cases e) ?_
  refine A.take 8 rfl (by kernel_rfl) (by intro _ _ e; cases e) ?_
  refine A.one 4 rfl (by kernel_rfl) ?_
  first | refine W.pop ?_ | refine W.fn hS (fun _ _ => ?_) | refine W.bs (fun _ _ => ?_) | refine W.box (fun _ _ => ?_) | refine W.alloc (fun _ _ => ?_) | refine W.store ?_
  refine A.soft ?_
  refine A.one 9 rfl (by kernel_rfl) ?_
  first | refine W.pop ?_ | refine W.fn hS (fun _ _ => ?_) | refine W.bs (fun _ _ => ?_) | refine W.box (fun _ _ => ?_) | refine W.alloc (fun _ _ => ?_) | refine W.store ?_
  refine A.soft ?_
  refine A.one 10 rfl (by kernel_rfl) ?_
  first | refine W.pop ?_ | refine W.fn hS (fun _ _ => ?_) | refine W.bs (fun _ _ => ?_) | refine W.box (fun _ _ => ?_) | refine W.alloc (fun _ _ => ?_) | refine W.store ?_
  refine A.soft ?_
  refine A.one 11 rfl (by kernel_rfl) ?_
  first | refine W.pop ?_ | refine W.fn hS (fun _ _ => ?_) | refine W.bs (fun _ _ => ?_) | refine W.box (fun _ _ => ?_) | refine W.alloc (fun _ _ => ?_) | refine W.store ?_
  refine A.soft ?_
  refine A.take 12 rfl (by kernel_rfl) (by intro _ _ e; cases e) ?_
  refine Any.done (by kernel_rfl) ?_
  repeat (first | refine hS.seq ?_ | refine hS.regionW ?_ | refine W.pop ?_ | refine W.yes ?_ | refine W.no ?_ | refine W.box (fun _ _ => ?_) | refine W.alloc (fun _ _ => ?_) | refine W.store ?_ | refine W.bs (fun _ _ => ?_) | refine W.fn hS (fun _ _ => ?_) | refine WL.nil ?_ | refine R.condT hS ?_ | refine R.condF hS ?_ | refine hS.skip ?_ | refine hS.block ?_ | refine hS.inBlock ?_ | refine R.ret hS ?_ | refine R.fin hS ?_ | refine R.begin hS ?_ | refine R.endRound hS ?_ | refine R.retRound hS ?_ | refine R.retC hS ?_ | refine R.endRangeDone hS ?_ | refine R.endRangeRet hS ?_)
  refine hc _ _ ⟨?_, Ext0.out⟩
  simp [resOf, orderV]
end Go.Proofs.YtankmjkogcbnfaaDoor
/-
  Contracts of slices.Index and Contains of points; of slices.Clone; of wear.twin.
-/
namespace Go.Proofs.YtankmjkogcbnfaaDoor
open Go Go.SL Go.Conc
attribute [local irreducible] putE ofL Look Nth Ev HG Own SubL Wr Sgl EvL LH.upd WL OpS Any Con PopW Pop
instance fls48 : FlsC Tryd.prog 48 [(3, 0), (3, 1)] := ⟨by kernel_rfl⟩
instance eg48 : EgC Tryd.prog 48 := ⟨by kernel_rfl⟩

structure Pt where
  u : Int
  v : Int
  deriving DecidableEq
def Pt.c (p : Pt) : List Value := [.int .i64 p.u, .int .i64 p.v]
instance elPt {l : List Pt} {i : Nat} {p : Pt} [q : IxC l i p] : ElC (l.map Pt.c) i [.int .i64 p.u, .int .i64 p.v] := ⟨by simp [q.out, Pt.c]⟩

instance c176 {l : List Pt} {a b : Int} {h : LH} {v : Value} [hs : SlC h 2 v (l.map Pt.c)] [hn : GtC l.length 4611686018427387904] : FnC Tryd.prog 176 [v, .agg #[.int .i64 a, .int .i64 b]] h (.int .i64 (findI (fun i => decide (l[i]? = some ⟨a, b⟩)) l.length)) := by
  have hs' : SlAt h 2 v (l.map Pt.c) := ⟨hs.out⟩
  have hn := hn.out
  refine ⟨Con.intro (m := 2) Tryd.func176 rfl Tryd.ntmps176 rfl (by decide) ?_⟩
  intro main S hS c cs hc
  repeat (first | refine hS.seq ?_ | refine hS.regionW ?_ | refine W.pop ?_ | refine W.yes ?_ | refine W.no ?_ | refine W.box (fun _ _ => ?_) | refine W.alloc (fun _ _ => ?_) | refine W.store ?_ | refine W.bs (fun _ _ => ?_) | refine W.fn hS (fun _ _ => ?_) | refine WL.nil ?_ | refine R.condT hS ?_ | refine R.condF hS ?_ | refine hS.skip ?_ | refine hS.block ?_ | refine hS.inBlock ?_ | refine R.ret hS ?_ | refine R.fin hS ?_ | refine R.begin hS ?_ | refine R.endRound hS ?_ | refine R.retRound hS ?_ | refine R.retC hS ?_ | refine R.endRangeDone hS ?_ | refine R.endRangeRet hS ?_)
  refine hS.loop ?_
  refine loop_ind (fun (i : Nat) => l.length - i) (fun i E h' => i ≤ l.length ∧ LookC E 0 v ∧ (∃ p, LookC E 3 (.pointer (some ⟨p, 0, none⟩)) ∧ HGC h' p (.cells #[.int .i64 a, .int .i64 b] 48 (0, 0))) ∧ LookC E 7 (.int .i64 l.length) ∧ LookC E 8 (.int .i64 (i : Nat)) ∧ Ext0 h h' ∧ ∀ j, j < i → decide (l[j]? = some ⟨a, b⟩) = false) ?_ 0 _ _ ⟨Nat.zero_le _, inferInstance, ⟨_, inferInstance, inferInstance⟩, inferInstance, inferInstance, inferInstance, by simp⟩
  rintro i E h' ⟨hi, l0, ⟨p, l3, hg⟩, l7, l8, hx, hb⟩ ih
  by_cases hlt : i < l.length
  · have ix : IxC l i l[i] := ⟨by simp [hlt]⟩
    have t1 : IsC (decide ((i : Int) < (l.length : Int))) true := ⟨by simp [hlt]⟩
    have nw : NoW ((i : Int) + 1) := NoW.of (by omega) (by omega)
    repeat (first | refine hS.seq ?_ | refine hS.regionW ?_ | refine W.pop ?_ | refine W.yes ?_ | refine W.no ?_ | refine W.box (fun _ _ => ?_) | refine W.alloc (fun _ _ => ?_) | refine W.store ?_ | refine W.bs (fun _ _ => ?_) | refine W.fn hS (fun _ _ => ?_) | refine WL.nil ?_ | refine R.condT hS ?_ | refine R.condF hS ?_ | refine hS.skip ?_ | refine hS.block ?_ | refine hS.inBlock ?_ | refine R.ret hS ?_ | refine R.fin hS ?_ | refine R.begin hS ?_ | refine R.endRound hS ?_ | refine R.retRound hS ?_ | refine R.retC hS ?_ | refine R.endRangeDone hS ?_ | refine R.endRangeRet hS ?_)
    refine hS.regionA mixed [] ?_
    refine A.take 0 rfl (by kernel_rfl) (by intro _ _ e; cases e) ?_
    refine A.take 1 rfl (by kernel_rfl) (by intro _ _ e; cases e) ?_
    refine A.take 2 rfl (by kernel_rfl) (by intro _ _ e; cases e) ?_
    refine A.take 3 rfl (by kernel_rfl) (by intro _ _ e; cases e) ?_
    refine A.take 4 rfl (by kernel_rfl) (by intro _ _ e; cases e) ?_
    refine A.take 5 rfl (by kernel_rfl) (by intro _ _ e; cases e) ?_
    refine Any.done (by kernel_rfl) ?_
    repeat (first | refine hS.seq ?_ | refine hS.regionW ?_ | refine W.pop ?_ | refine W.yes ?_ | refine W.no ?_ | refine W.box (fun _ _ => ?_) | refine W.alloc (fun _ _ => ?_) | refine W.store ?_ | refine W.bs (fun _ _ => ?_) | refine W.fn hS (fun _ _ => ?_) | refine WL.nil ?_ | refine R.condT hS ?_ | refine R.condF hS ?_ | refine hS.skip ?_ | refine hS.block ?_ | refine hS.inBlock ?_ | refine R.ret hS ?_ | refine R.fin hS ?_ | refine R.begin hS ?_ | refine R.endRound hS ?_ | refine R.retRound hS ?_ | refine R.retC hS ?_ | refine R.endRangeDone hS ?_ | refine R.endRangeRet hS ?_)
    refine R.cond hS (fun hT => ?_) (fun hF => ?_)
    · have hq : decide (l[i]? = some ⟨a, b⟩) = true := by
        have := hT.out
        simp only [Bool.and_true, Bool.and_eq_true, beq_iff_eq] at this
        simp [hlt, this.1, this.2]
      repeat (first | refine hS.seq ?_ | refine hS.regionW ?_ | refine W.pop ?_ | refine W.yes ?_ | refine W.no ?_ | refine W.box (fun _ _ => ?_) | refine W.alloc (fun _ _ => ?_) | refine W.store ?_ | refine W.bs (fun _ _ => ?_) | refine W.fn hS (fun _ _ => ?_) | refine WL.nil ?_ | refine R.condT hS ?_ | refine R.condF hS ?_ | refine hS.skip ?_ | refine hS.block ?_ | refine hS.inBlock ?_ | refine R.ret hS ?_ | refine R.fin hS ?_ | refine R.begin hS ?_ | refine R.endRound hS ?_ | refine R.retRound hS ?_ | refine R.retC hS ?_ | refine R.endRangeDone hS ?_ | refine R.endRangeRet hS ?_)
      have e := findI_some (q := fun i => decide (l[i]? = some ⟨a, b⟩)) hlt hq hb
      refine hc _ _ ⟨by simp [resOf, e], Ext0.out⟩
    · have hq : decide (l[i]? = some ⟨a, b⟩) = false := by
        have := hF.out
        simp only [Bool.and_true] at this
        simp only [decide_eq_false_iff_not, List.getElem?_eq_getElem hlt, Option.some.injEq]
        intro e
        rw [e] at this
        simp at this
      repeat (first | refine hS.seq ?_ | refine hS.regionW ?_ | refine W.pop ?_ | refine W.yes ?_ | refine W.no ?_ | refine W.box (fun _ _ => ?_) | refine W.alloc (fun _ _ => ?_) | refine W.store ?_ | refine W.bs (fun _ _ => ?_) | refine W.fn hS (fun _ _ => ?_) | refine WL.nil ?_ | refine R.condT hS ?_ | refine R.condF hS ?_ | refine hS.skip ?_ | refine hS.block ?_ | refine hS.inBlock ?_ | refine R.ret hS ?_ | refine R.fin hS ?_ | refine R.begin hS ?_ | refine R.endRound hS ?_ | refine R.retRound hS ?_ | refine R.retC hS ?_ | refine R.endRangeDone hS ?_ | refine R.endRangeRet hS ?_)
      refine hS.inLoop ?_
      refine ih (i + 1) _ _ (by omega) ⟨hlt, inferInstance, ⟨p, inferInstance, inferInstance⟩, inferInstance, by have e : ((i + 1 : Nat) : Int) = (i : Int) + 1 := (by omega); rw [e]; infer_instance, inferInstance, ?_⟩
      intro j hj
      by_cases e : j = i
      · subst e; exact hq
      · exact hb j (by omega)
  · have t1 : IsC (decide ((i : Int) < (l.length : Int))) false := ⟨by simp; omega⟩
    repeat (first | refine hS.seq ?_ | refine hS.regionW ?_ | refine W.pop ?_ | refine W.yes ?_ | refine W.no ?_ | refine W.box (fun _ _ => ?_) | refine W.alloc (fun _ _ => ?_) | refine W.store ?_ | refine W.bs (fun _ _ => ?_) | refine W.fn hS (fun _ _ => ?_) | refine WL.nil ?_ | refine R.condT hS ?_ | refine R.condF hS ?_ | refine hS.skip ?_ | refine hS.block ?_ | refine hS.inBlock ?_ | refine R.ret hS ?_ | refine R.fin hS ?_ | refine R.begin hS ?_ | refine R.endRound hS ?_ | refine R.retRound hS ?_ | refine R.retC hS ?_ | refine R.endRangeDone hS ?_ | refine R.endRangeRet hS ?_)
    refine hS.exit rfl ?_
    repeat (first | refine hS.seq ?_ | refine hS.regionW ?_ | refine W.pop ?_ | refine W.yes ?_ | refine W.no ?_ | refine W.box (fun _ _ => ?_) | refine W.alloc (fun _ _ => ?_) | refine W.store ?_ | refine W.bs (fun _ _ => ?_) | refine W.fn hS (fun _ _ => ?_) | refine WL.nil ?_ | refine R.condT hS ?_ | refine R.condF hS ?_ | refine hS.skip ?_ | refine hS.block ?_ | refine hS.inBlock ?_ | refine R.ret hS ?_ | refine R.fin hS ?_ | refine R.begin hS ?_ | refine R.endRound hS ?_ | refine R.retRound hS ?_ | refine R.retC hS ?_ | refine R.endRangeDone hS ?_ | refine R.endRangeRet hS ?_)
    have e := findI_none (q := fun i => decide (l[i]? = some ⟨a, b⟩)) (n := l.length) (fun j hj => hb j (by omega))
    refine hc _ _ ⟨by simp [resOf, e], Ext0.out⟩

theorem findI_mem {l : List Pt} {p : Pt} : decide (findI (fun i => decide (l[i]? = some p)) l.length ≥ 0) = decide (p ∈ l) := by
  rw [decide_eq_decide, ge_iff_le, findI_ge]
  constructor
  · rintro ⟨i, hi, hq⟩
    exact List.mem_of_getElem? (by simpa using hq)
  · intro hm
    obtain ⟨i, hi, rfl⟩ := List.mem_iff_getElem.1 hm
    exact ⟨i, hi, by simp [hi]⟩
instance c112 {l : List Pt} {a b : Int} {h : LH} {v : Value} [hs : SlC h 2 v (l.map Pt.c)] [hn : GtC l.length 4611686018427387904] : FnC Tryd.prog 112 [v, .agg #[.int .i64 a, .int .i64 b]] h (.bool (decide (⟨a, b⟩ ∈ l))) := by
  have hs' : SlAt h 2 v (l.map Pt.c) := ⟨hs.out⟩
  have hn := hn.out
  refine ⟨Con.intro (m := 2) Tryd.func112 rfl Tryd.ntmps112 rfl (by decide) ?_⟩
  intro main S hS c cs hc
  repeat' (first | (first | refine hS.seq ?_ | refine hS.regionW ?_ | refine W.pop ?_ | refine W.yes ?_ | refine W.no ?_ | refine W.box (fun _ _ => ?_) | refine W.alloc (fun _ _ => ?_) | refine W.store ?_ | refine W.bs (fun _ _ => ?_) | refine W.fn hS (fun _ _ => ?_) | refine WL.nil ?_ | refine R.condT hS ?_ | refine R.condF hS ?_ | refine hS.skip ?_ | refine hS.block ?_ | refine hS.inBlock ?_ | refine R.ret hS ?_ | refine R.fin hS ?_ | refine R.begin hS ?_ | refine R.endRound hS ?_ | refine R.retRound hS ?_ | refine R.retC hS ?_ | refine R.endRangeDone hS ?_ | refine R.endRangeRet hS ?_) | refine W.split (fun _ => ?_) (fun _ => ?_) | refine R.cond hS (fun _ => ?_) (fun _ => ?_))
  refine hc _ _ ⟨?_, Ext0.out⟩
  rw [← findI_mem]; rfl

theorem clone71 {h : LH} {v : Value} {xs : List (List Value)} (hs : SlE h 2 v xs) (hsg : Sgl xs.flatten) (hn : xs.length ≤ 1000) : Con Tryd.prog 71 [v] h (fun r h' => Ext h h' ∧ SlW h' 2 r xs ∧ NewB h r) := by
  obtain ⟨a, cap, rfl, hs2⟩ := id hs
  refine Con.intro (m := 1) Tryd.func71 rfl Tryd.ntmps71 rfl (by decide) ?_
  intro main S hS c cs hc
  cases a with
  | none =>
    have t1 : IsC ((none : Option Addr).isNone) true := ⟨rfl⟩
    have hx : xs = [] := by
      cases xs with
      | nil => rfl
      | cons x xs => obtain ⟨_, _, _, _, _, h1, _⟩ := hs2.2 0 x rfl; cases h1
    repeat (first | refine hS.seq ?_ | refine hS.regionW ?_ | refine W.pop ?_ | refine W.yes ?_ | refine W.no ?_ | refine W.box (fun _ _ => ?_) | refine W.alloc (fun _ _ => ?_) | refine W.store ?_ | refine W.bs (fun _ _ => ?_) | refine W.fn hS (fun _ _ => ?_) | refine WL.nil ?_ | refine R.condT hS ?_ | refine R.condF hS ?_ | refine hS.skip ?_ | refine hS.block ?_ | refine hS.inBlock ?_ | refine R.ret hS ?_ | refine R.fin hS ?_ | refine R.begin hS ?_ | refine R.endRound hS ?_ | refine R.retRound hS ?_ | refine R.retC hS ?_ | refine R.endRangeDone hS ?_ | refine R.endRangeRet hS ?_)
    exact hc _ _ ⟨Ext0.out, ⟨by simp [hx], .inl ⟨rfl, hx⟩⟩, fun b hb => by simp [blkOf, resOf] at hb⟩
  | some a =>
    have t1 : IsC ((some a : Option Addr).isNone) false := ⟨rfl⟩
    repeat (first | refine hS.seq ?_ | refine hS.regionW ?_ | refine W.pop ?_ | refine W.yes ?_ | refine W.no ?_ | refine W.box (fun _ _ => ?_) | refine W.alloc (fun _ _ => ?_) | refine W.store ?_ | refine W.bs (fun _ _ => ?_) | refine W.fn hS (fun _ _ => ?_) | refine WL.nil ?_ | refine R.condT hS ?_ | refine R.condF hS ?_ | refine hS.skip ?_ | refine hS.block ?_ | refine hS.inBlock ?_ | refine R.ret hS ?_ | refine R.fin hS ?_ | refine R.begin hS ?_ | refine R.endRound hS ?_ | refine R.retRound hS ?_ | refine R.retC hS ?_ | refine R.endRangeDone hS ?_ | refine R.endRangeRet hS ?_)
    rename_i p hp
    have hx : Ext h (h.upd p (.cells (List.toArray []) 48 (0, 0))) := Ext0.out
    refine W.append (xs := []) (by_ := 16) (by kernel_rfl) ⟨by simp, .inr ⟨p, 0, 0, [], 48, rfl, by simp, Own.hit, HG.hit, by simp, by simp⟩⟩ (hs.ext hx) hsg (by simp; omega) (by simp; omega) (fun s' h' hw hf hb => ?_)
    have hx' : Ext h h' := hf.ext (fun b hb => by simp [blkOf] at hb; subst hb; exact hp.out) hx
    have hx2 : ExtC h h' := ⟨hx'⟩
    repeat (first | refine hS.seq ?_ | refine hS.regionW ?_ | refine W.pop ?_ | refine W.yes ?_ | refine W.no ?_ | refine W.box (fun _ _ => ?_) | refine W.alloc (fun _ _ => ?_) | refine W.store ?_ | refine W.bs (fun _ _ => ?_) | refine W.fn hS (fun _ _ => ?_) | refine WL.nil ?_ | refine R.condT hS ?_ | refine R.condF hS ?_ | refine hS.skip ?_ | refine hS.block ?_ | refine hS.inBlock ?_ | refine R.ret hS ?_ | refine R.fin hS ?_ | refine R.begin hS ?_ | refine R.endRound hS ?_ | refine R.retRound hS ?_ | refine R.retC hS ?_ | refine R.endRangeDone hS ?_ | refine R.endRangeRet hS ?_)
    refine hc _ _ ⟨hx', by simpa [resOf] using hw, fun b hb' => ?_⟩
    simp only [resOf] at hb'
    rcases hb with hb | ⟨q, hq, hq2⟩
    · rw [hb'] at hb; simp [blkOf] at hb; subst hb; exact hp.out
    · rw [hb'] at hq; cases hq
      cases hg : h.get b with
      | none => rfl
      | some o => rw [hx.get _ _ hg] at hq2; cases hq2
theorem clone72 {h : LH} {v : Value} {xs : List (List Value)} (hs : SlE h 4 v xs) (hsg : Sgl xs.flatten) (hn : xs.length ≤ 1000) : Con Tryd.prog 72 [v] h (fun r h' => Ext h h' ∧ SlW h' 4 r xs ∧ NewB h r) := by
  obtain ⟨a, cap, rfl, hs2⟩ := id hs
  refine Con.intro (m := 1) Tryd.func72 rfl Tryd.ntmps72 rfl (by decide) ?_
  intro main S hS c cs hc
  cases a with
  | none =>
    have t1 : IsC ((none : Option Addr).isNone) true := ⟨rfl⟩
    have hx : xs = [] := by
      cases xs with
      | nil => rfl
      | cons x xs => obtain ⟨_, _, _, _, _, h1, _⟩ := hs2.2 0 x rfl; cases h1
    repeat (first | refine hS.seq ?_ | refine hS.regionW ?_ | refine W.pop ?_ | refine W.yes ?_ | refine W.no ?_ | refine W.box (fun _ _ => ?_) | refine W.alloc (fun _ _ => ?_) | refine W.store ?_ | refine W.bs (fun _ _ => ?_) | refine W.fn hS (fun _ _ => ?_) | refine WL.nil ?_ | refine R.condT hS ?_ | refine R.condF hS ?_ | refine hS.skip ?_ | refine hS.block ?_ | refine hS.inBlock ?_ | refine R.ret hS ?_ | refine R.fin hS ?_ | refine R.begin hS ?_ | refine R.endRound hS ?_ | refine R.retRound hS ?_ | refine R.retC hS ?_ | refine R.endRangeDone hS ?_ | refine R.endRangeRet hS ?_)
    exact hc _ _ ⟨Ext0.out, ⟨by simp [hx], .inl ⟨rfl, hx⟩⟩, fun b hb => by simp [blkOf, resOf] at hb⟩
  | some a =>
    have t1 : IsC ((some a : Option Addr).isNone) false := ⟨rfl⟩
    repeat (first | refine hS.seq ?_ | refine hS.regionW ?_ | refine W.pop ?_ | refine W.yes ?_ | refine W.no ?_ | refine W.box (fun _ _ => ?_) | refine W.alloc (fun _ _ => ?_) | refine W.store ?_ | refine W.bs (fun _ _ => ?_) | refine W.fn hS (fun _ _ => ?_) | refine WL.nil ?_ | refine R.condT hS ?_ | refine R.condF hS ?_ | refine hS.skip ?_ | refine hS.block ?_ | refine hS.inBlock ?_ | refine R.ret hS ?_ | refine R.fin hS ?_ | refine R.begin hS ?_ | refine R.endRound hS ?_ | refine R.retRound hS ?_ | refine R.retC hS ?_ | refine R.endRangeDone hS ?_ | refine R.endRangeRet hS ?_)
    rename_i p hp
    have hx : Ext h (h.upd p (.cells (List.toArray []) 108 (0, 0))) := Ext0.out
    refine W.append (xs := []) (by_ := 32) (by kernel_rfl) ⟨by simp, .inr ⟨p, 0, 0, [], 108, rfl, by simp, Own.hit, HG.hit, by simp, by simp⟩⟩ (hs.ext hx) hsg (by simp; omega) (by simp; omega) (fun s' h' hw hf hb => ?_)
    have hx' : Ext h h' := hf.ext (fun b hb => by simp [blkOf] at hb; subst hb; exact hp.out) hx
    have hx2 : ExtC h h' := ⟨hx'⟩
    repeat (first | refine hS.seq ?_ | refine hS.regionW ?_ | refine W.pop ?_ | refine W.yes ?_ | refine W.no ?_ | refine W.box (fun _ _ => ?_) | refine W.alloc (fun _ _ => ?_) | refine W.store ?_ | refine W.bs (fun _ _ => ?_) | refine W.fn hS (fun _ _ => ?_) | refine WL.nil ?_ | refine R.condT hS ?_ | refine R.condF hS ?_ | refine hS.skip ?_ | refine hS.block ?_ | refine hS.inBlock ?_ | refine R.ret hS ?_ | refine R.fin hS ?_ | refine R.begin hS ?_ | refine R.endRound hS ?_ | refine R.retRound hS ?_ | refine R.retC hS ?_ | refine R.endRangeDone hS ?_ | refine R.endRangeRet hS ?_)
    refine hc _ _ ⟨hx', by simpa [resOf] using hw, fun b hb' => ?_⟩
    simp only [resOf] at hb'
    rcases hb with hb | ⟨q, hq, hq2⟩
    · rw [hb'] at hb; simp [blkOf] at hb; subst hb; exact hp.out
    · rw [hb'] at hq; cases hq
      cases hg : h.get b with
      | none => rfl
      | some o => rw [hx.get _ _ hg] at hq2; cases hq2
theorem clone73 {h : LH} {v : Value} {xs : List (List Value)} (hs : SlE h 4 v xs) (hsg : Sgl xs.flatten) (hn : xs.length ≤ 1000) : Con Tryd.prog 73 [v] h (fun r h' => Ext h h' ∧ SlW h' 4 r xs ∧ NewB h r) := by
  obtain ⟨a, cap, rfl, hs2⟩ := id hs
  refine Con.intro (m := 1) Tryd.func73 rfl Tryd.ntmps73 rfl (by decide) ?_
  intro main S hS c cs hc
  cases a with
  | none =>
    have t1 : IsC ((none : Option Addr).isNone) true := ⟨rfl⟩
    have hx : xs = [] := by
      cases xs with
      | nil => rfl
      | cons x xs => obtain ⟨_, _, _, _, _, h1, _⟩ := hs2.2 0 x rfl; cases h1
    repeat (first | refine hS.seq ?_ | refine hS.regionW ?_ | refine W.pop ?_ | refine W.yes ?_ | refine W.no ?_ | refine W.box (fun _ _ => ?_) | refine W.alloc (fun _ _ => ?_) | refine W.store ?_ | refine W.bs (fun _ _ => ?_) | refine W.fn hS (fun _ _ => ?_) | refine WL.nil ?_ | refine R.condT hS ?_ | refine R.condF hS ?_ | refine hS.skip ?_ | refine hS.block ?_ | refine hS.inBlock ?_ | refine R.ret hS ?_ | refine R.fin hS ?_ | refine R.begin hS ?_ | refine R.endRound hS ?_ | refine R.retRound hS ?_ | refine R.retC hS ?_ | refine R.endRangeDone hS ?_ | refine R.endRangeRet hS ?_)
    exact hc _ _ ⟨Ext0.out, ⟨by simp [hx], .inl ⟨rfl, hx⟩⟩, fun b hb => by simp [blkOf, resOf] at hb⟩
  | some a =>
    have t1 : IsC ((some a : Option Addr).isNone) false := ⟨rfl⟩
    repeat (first | refine hS.seq ?_ | refine hS.regionW ?_ | refine W.pop ?_ | refine W.yes ?_ | refine W.no ?_ | refine W.box (fun _ _ => ?_) | refine W.alloc (fun _ _ => ?_) | refine W.store ?_ | refine W.bs (fun _ _ => ?_) | refine W.fn hS (fun _ _ => ?_) | refine WL.nil ?_ | refine R.condT hS ?_ | refine R.condF hS ?_ | refine hS.skip ?_ | refine hS.block ?_ | refine hS.inBlock ?_ | refine R.ret hS ?_ | refine R.fin hS ?_ | refine R.begin hS ?_ | refine R.endRound hS ?_ | refine R.retRound hS ?_ | refine R.retC hS ?_ | refine R.endRangeDone hS ?_ | refine R.endRangeRet hS ?_)
    rename_i p hp
    have hx : Ext h (h.upd p (.cells (List.toArray []) 120 (0, 0))) := Ext0.out
    refine W.append (xs := []) (by_ := 32) (by kernel_rfl) ⟨by simp, .inr ⟨p, 0, 0, [], 120, rfl, by simp, Own.hit, HG.hit, by simp, by simp⟩⟩ (hs.ext hx) hsg (by simp; omega) (by simp; omega) (fun s' h' hw hf hb => ?_)
    have hx' : Ext h h' := hf.ext (fun b hb => by simp [blkOf] at hb; subst hb; exact hp.out) hx
    have hx2 : ExtC h h' := ⟨hx'⟩
    repeat (first | refine hS.seq ?_ | refine hS.regionW ?_ | refine W.pop ?_ | refine W.yes ?_ | refine W.no ?_ | refine W.box (fun _ _ => ?_) | refine W.alloc (fun _ _ => ?_) | refine W.store ?_ | refine W.bs (fun _ _ => ?_) | refine W.fn hS (fun _ _ => ?_) | refine WL.nil ?_ | refine R.condT hS ?_ | refine R.condF hS ?_ | refine hS.skip ?_ | refine hS.block ?_ | refine hS.inBlock ?_ | refine R.ret hS ?_ | refine R.fin hS ?_ | refine R.begin hS ?_ | refine R.endRound hS ?_ | refine R.retRound hS ?_ | refine R.retC hS ?_ | refine R.endRangeDone hS ?_ | refine R.endRangeRet hS ?_)
    refine hc _ _ ⟨hx', by simpa [resOf] using hw, fun b hb' => ?_⟩
    simp only [resOf] at hb'
    rcases hb with hb | ⟨q, hq, hq2⟩
    · rw [hb'] at hb; simp [blkOf] at hb; subst hb; exact hp.out
    · rw [hb'] at hq; cases hq
      cases hg : h.get b with
      | none => rfl
      | some o => rw [hx.get _ _ hg] at hq2; cases hq2
end Go.Proofs.YtankmjkogcbnfaaDoor
/-
  The contract of wear.twin.
-/
namespace Go.Proofs.YtankmjkogcbnfaaDoor
open Go Go.SL Go.Conc
attribute [local irreducible] putE ofL Look Nth Ev HG Own SubL Wr Sgl EvL LH.upd WL OpS Any Con PopW Pop
theorem c34 {h : LH} {vo vh vm : Value} {st lo hi : Int} {xo xh xm : List (List Value)} [so : SingleC vo] [sh : SingleC vh] [sm : SingleC vm] (ho : SlE h 2 vo xo) (hh : SlE h 4 vh xh) (hm : SlE h 4 vm xm) (go : Sgl xo.flatten) (gh : Sgl xh.flatten) (gm : Sgl xm.flatten) (no : xo.length ≤ 1000) (nh : xh.length ≤ 1000) (nm : xm.length ≤ 1000) :
    Con Tryd.prog 34 [.agg #[vo, vh, .int .i64 st, .int .i64 lo, .int .i64 hi, vm]] h (fun r h' => Ext h h' ∧ ∃ vo' vh' vm', r = .agg #[vo', vh', .int .i64 st, .int .i64 lo, .int .i64 hi, vm'] ∧ SlW h' 2 vo' xo ∧ SlW h' 4 vh' xh ∧ SlW h' 4 vm' xm ∧ NewB h vo' ∧ NewB h vh' ∧ NewB h vm' ∧ (∀ b, blkOf vo' = some b → blkOf vm' ≠ some b) ∧ ∀ b, blkOf vh' = some b → blkOf vm' ≠ some b) := by
  refine Con.intro (m := 1) Tryd.func34 rfl Tryd.ntmps34 rfl (by decide) ?_
  intro main S hS c cs hc
  repeat (first | refine hS.seq ?_ | refine hS.regionW ?_ | refine W.pop ?_ | refine W.yes ?_ | refine W.no ?_ | refine W.box (fun _ _ => ?_) | refine W.alloc (fun _ _ => ?_) | refine W.store ?_ | refine W.bs (fun _ _ => ?_) | refine W.fn hS (fun _ _ => ?_) | refine WL.nil ?_ | refine R.condT hS ?_ | refine R.condF hS ?_ | refine hS.skip ?_ | refine hS.block ?_ | refine hS.inBlock ?_ | refine R.ret hS ?_ | refine R.fin hS ?_ | refine R.begin hS ?_ | refine R.endRound hS ?_ | refine R.retRound hS ?_ | refine R.retC hS ?_ | refine R.endRangeDone hS ?_ | refine R.endRangeRet hS ?_)
  rename_i p1 f1 p2 f2
  refine hS.regionA mixed [10] ?_
  refine A.take 0 rfl (by kernel_rfl) (by intro _ _ e; cases e) ?_
  refine A.take 1 rfl (by kernel_rfl) (by intro _ _ e; cases e) ?_
  refine A.take 2 rfl (by kernel_rfl) (by intro _ _ e; cases e) ?_
  refine A.take 4 rfl (by kernel_rfl) (by intro _ _ e; cases e) ?_
  refine A.take 5 rfl (by kernel_rfl) (by intro _ _ e; cases e) ?_
  refine A.take 6 rfl (by kernel_rfl) (by intro _ _ e; cases e) ?_
  refine A.one 3 rfl (by kernel_rfl) ?_
  refine W.call hS (clone71 (ho.ext Ext0.out) go no) (fun vo' h1 hr1 => ?_)
  obtain ⟨x1, w1, n1⟩ := hr1
  have e1 : ExtC _ h1 := ⟨x1⟩
  obtain ⟨so'⟩ : SingleC vo' := ⟨by obtain ⟨_, ⟨rfl, _⟩ | ⟨_, _, _, _, _, rfl, _⟩⟩ := w1 <;> rfl⟩
  have sso : SingleC vo' := ⟨so'⟩
  refine A.soft ?_
  refine A.one 7 rfl (by kernel_rfl) ?_
  refine W.call hS (clone72 (hh.ext Ext0.out) gh nh) (fun vh' h2 hr2 => ?_)
  obtain ⟨x2, w2, n2⟩ := hr2
  have e2 : ExtC _ h2 := ⟨x2⟩
  obtain ⟨sh'⟩ : SingleC vh' := ⟨by obtain ⟨_, ⟨rfl, _⟩ | ⟨_, _, _, _, _, rfl, _⟩⟩ := w2 <;> rfl⟩
  have ssh : SingleC vh' := ⟨sh'⟩
  refine A.soft ?_
  refine A.take 8 rfl (by kernel_rfl) (by intro _ _ e; cases e) ?_
  refine A.take 9 rfl (by kernel_rfl) (by intro _ _ e; cases e) ?_
  refine A.one 10 rfl (by kernel_rfl) ?_
  first | refine W.pop ?_ | refine W.fn hS (fun _ _ => ?_) | refine W.bs (fun _ _ => ?_) | refine W.box (fun _ _ => ?_) | refine W.alloc (fun _ _ => ?_) | refine W.store ?_
  refine A.hard (by rfl) ?_
  refine Any.done (by kernel_rfl) ?_
  repeat (first | refine hS.seq ?_ | refine hS.regionW ?_ | refine W.pop ?_ | refine W.yes ?_ | refine W.no ?_ | refine W.box (fun _ _ => ?_) | refine W.alloc (fun _ _ => ?_) | refine W.store ?_ | refine W.bs (fun _ _ => ?_) | refine W.fn hS (fun _ _ => ?_) | refine WL.nil ?_ | refine R.condT hS ?_ | refine R.condF hS ?_ | refine hS.skip ?_ | refine hS.block ?_ | refine hS.inBlock ?_ | refine R.ret hS ?_ | refine R.fin hS ?_ | refine R.begin hS ?_ | refine R.endRound hS ?_ | refine R.retRound hS ?_ | refine R.retC hS ?_ | refine R.endRangeDone hS ?_ | refine R.endRangeRet hS ?_)
  refine W.call hS (clone73 (hm.ext Ext0.out) gm nm) (fun vm' h3 hr3 => ?_)
  obtain ⟨x3, w3, n3⟩ := hr3
  have e3 : ExtC _ h3 := ⟨x3⟩
  have ssm : SingleC vm' := ⟨by obtain ⟨_, ⟨rfl, _⟩ | ⟨_, _, _, _, _, rfl, _⟩⟩ := w3 <;> rfl⟩
  repeat (first | refine hS.seq ?_ | refine hS.regionW ?_ | refine W.pop ?_ | refine W.yes ?_ | refine W.no ?_ | refine W.box (fun _ _ => ?_) | refine W.alloc (fun _ _ => ?_) | refine W.store ?_ | refine W.bs (fun _ _ => ?_) | refine W.fn hS (fun _ _ => ?_) | refine WL.nil ?_ | refine R.condT hS ?_ | refine R.condF hS ?_ | refine hS.skip ?_ | refine hS.block ?_ | refine hS.inBlock ?_ | refine R.ret hS ?_ | refine R.fin hS ?_ | refine R.begin hS ?_ | refine R.endRound hS ?_ | refine R.retRound hS ?_ | refine R.retC hS ?_ | refine R.endRangeDone hS ?_ | refine R.endRangeRet hS ?_)
  refine hc _ _ ⟨Ext0.out, vo', vh', vm', rfl, ?_, ?_, ?_, n1.old Ext0.out, n2.old Ext0.out, n3.old Ext0.out, fun b hb e => ((w1.ext x2).ne n1.ne).dom hb (n3 b e), fun b hb e => (w2.ne n2.ne).dom hb (n3 b e)⟩
  · exact ((((w1.ext x2).ne n1.ne).ext x3).ne n1.ne).ne n1.ne
  · exact (((w2.ne n2.ne).ext x3).ne n2.ne).ne n2.ne
  · exact (w3.ne n3.ne).ne n3.ne
end Go.Proofs.YtankmjkogcbnfaaDoor
/-
  wear.sides and its ranges; wear.has.
-/
namespace Go.Proofs.YtankmjkogcbnfaaDoor
open Go Go.SL Go.Conc
attribute [local irreducible] putE ofL Look Nth Ev HG Own SubL Wr Sgl EvL LH.upd WL OpS Any Con PopW Pop
theorem c75 {h : LH} {v : Value} [sv : SingleC v] : Con Tryd.prog 75 [v] h (fun r h' => ∃ p, r = .func (.func 116) #[] (List.toArray [.pointer (some ⟨p, 0, none⟩)]) ∧ FreshAt h p ∧ h' = h.upd p (.cells (List.toArray [v]) 22 (0, 0))) := by
  refine Con.intro (m := 1) Tryd.func75 rfl Tryd.ntmps75 rfl (by decide) ?_
  intro main S hS c cs hc
  repeat (first | refine hS.seq ?_ | refine hS.regionW ?_ | refine W.pop ?_ | refine W.yes ?_ | refine W.no ?_ | refine W.box (fun _ _ => ?_) | refine W.alloc (fun _ _ => ?_) | refine W.store ?_ | refine W.bs (fun _ _ => ?_) | refine W.fn hS (fun _ _ => ?_) | refine WL.nil ?_ | refine R.condT hS ?_ | refine R.condF hS ?_ | refine hS.skip ?_ | refine hS.block ?_ | refine hS.inBlock ?_ | refine R.ret hS ?_ | refine R.fin hS ?_ | refine R.begin hS ?_ | refine R.endRound hS ?_ | refine R.retRound hS ?_ | refine R.retC hS ?_ | refine R.endRangeDone hS ?_ | refine R.endRangeRet hS ?_)
  rename_i p hp
  exact hc _ _ ⟨p, rfl, hp, rfl⟩

def Pt.at (l : List Pt) (i : Nat) : Pt := l.getD i ⟨0, 0⟩
theorem ix_at {l : List Pt} {i : Nat} (hi : i < l.length) : IxC l i (Pt.at l i) := ⟨by simp [Pt.at, hi]⟩
/-- Edge i of an outline. -/
def sideV (l : List Pt) (i : Nat) : Value := .agg (List.toArray [.int .i64 (Pt.at l i).u, .int .i64 (Pt.at l i).v, .int .i64 (Pt.at l ((i + 1) % l.length)).u, .int .i64 (Pt.at l ((i + 1) % l.length)).v])

theorem it116 {main : Bool} {S : LH → Goroutine → Prop} (hS : Regime Tryd.prog main S) {l : List Pt} {v : Value} {p lp r : Nat} {fnx : FuncId} {tmps : Array Value} {j : Tmp} {assign body : Code} (hn : l.length ≤ 4611686018427387904)
    (Inv : Nat → LH → Prop) (Stop : LH → Prop) {hs : LH} (c0 : Frame) (cs : List Frame) (hext : ∀ i h h', Inv i h → Ext h h' → Inv i h')
    (hkn : ∀ i h, Inv i h → HGC h p (.cells (List.toArray [v]) 22 (0, 0)) ∧ SlC h 2 v (l.map Pt.c) ∧ HGC h lp (.loop (lpr .ready none fnx tmps #[j] assign body r)))
    (hyield : ∀ (i : Nat), i < l.length → ∀ h', Inv i h' → ∀ c, (∀ h'', Inv (i + 1) h'' → S h'' (G (c.finish (.bool true)) (c0 :: cs))) → (∀ h'', Stop h'' → S h'' (G (c.finish (.bool false)) (c0 :: cs))) →
      S h' (G (Frame.round lp fnx (tmps.setIfInBounds j (sideV l i)) assign body .normal) (c :: c0 :: cs)))
    (hdone : ∀ h', Inv l.length h' → S h' (G (c0.finish (.tuple #[])) cs)) (hstop : ∀ h', Stop h' → S h' (G (c0.finish (.tuple #[])) cs)) (h0 : Inv 0 hs) :
    S hs (G (Frame.enter Tryd.prog 116 (.func (.yield lp) #[] #[] :: [.pointer (some ⟨p, 0, none⟩)]).toArray .normal) (c0 :: cs)) := by
  rw [enter_eq Tryd.func116 rfl (by show 2 ≤ _; decide), Tryd.ntmps116]
  obtain ⟨k1, k2, k3⟩ := hkn 0 hs h0
  have k2' : SlAt hs 2 v (l.map Pt.c) := ⟨k2.out⟩
  repeat (first | refine hS.seq ?_ | refine hS.regionW ?_ | refine W.pop ?_ | refine W.yes ?_ | refine W.no ?_ | refine W.box (fun _ _ => ?_) | refine W.alloc (fun _ _ => ?_) | refine W.store ?_ | refine W.bs (fun _ _ => ?_) | refine W.fn hS (fun _ _ => ?_) | refine WL.nil ?_ | refine R.condT hS ?_ | refine R.condF hS ?_ | refine hS.skip ?_ | refine hS.block ?_ | refine hS.inBlock ?_ | refine R.ret hS ?_ | refine R.fin hS ?_ | refine R.begin hS ?_ | refine R.endRound hS ?_ | refine R.retRound hS ?_ | refine R.retC hS ?_ | refine R.endRangeDone hS ?_ | refine R.endRangeRet hS ?_)
  refine hS.loop ?_
  refine loop_ind (fun (i : Nat) => l.length - i) (fun i E h' => i ≤ l.length ∧ LookC E 0 (.func (.yield lp) #[] #[]) ∧ LookC E 1 (.pointer (some ⟨p, 0, none⟩)) ∧ LookC E 5 v ∧ LookC E 6 (.int .i64 l.length) ∧ LookC E 7 (.int .i64 (i : Nat)) ∧ Inv i h') ?_ 0 _ _ ⟨Nat.zero_le _, inferInstance, inferInstance, inferInstance, inferInstance, inferInstance, h0⟩
  rintro i E h' ⟨hi, l0, l1, l5, l6, l7, hq⟩ ih
  obtain ⟨k1, k2, k3⟩ := hkn i h' hq
  have k2' : SlAt h' 2 v (l.map Pt.c) := ⟨k2.out⟩
  by_cases hlt : i < l.length
  · have ix := ix_at hlt
    have iy : IxC l ((i + 1) % l.length) _ := ix_at (Nat.mod_lt _ (by omega))
    have t1 : IsC (decide ((i : Int) < (l.length : Int))) true := ⟨by simp [hlt]⟩
    have nw : NoW ((i : Int) + 1) := NoW.of (by omega) (by omega)
    have n0 : Ne0 (l.length : Int) := ⟨by omega⟩
    have nm : NatC (((i : Int) + 1).tmod (l.length : Int)) ((i + 1) % l.length) := ⟨by
      have e : ((i : Int) + 1) = ((i + 1 : Nat) : Int) := by omega
      rw [e, ← Int.ofNat_tmod]⟩
    repeat (first | refine hS.seq ?_ | refine hS.regionW ?_ | refine W.pop ?_ | refine W.yes ?_ | refine W.no ?_ | refine W.box (fun _ _ => ?_) | refine W.alloc (fun _ _ => ?_) | refine W.store ?_ | refine W.bs (fun _ _ => ?_) | refine W.fn hS (fun _ _ => ?_) | refine WL.nil ?_ | refine R.condT hS ?_ | refine R.condF hS ?_ | refine hS.skip ?_ | refine hS.block ?_ | refine hS.inBlock ?_ | refine R.ret hS ?_ | refine R.fin hS ?_ | refine R.begin hS ?_ | refine R.endRound hS ?_ | refine R.retRound hS ?_ | refine R.retC hS ?_ | refine R.endRangeDone hS ?_ | refine R.endRangeRet hS ?_)
    refine hS.regionA mixed [11] ?_
    first | (refine A.takeM 0 rfl (by kernel_rfl) (by intro _ _ e; cases e) ?_) | (refine A.take 0 rfl (by kernel_rfl) (by intro _ _ e; cases e) ?_)
    refine A.take 1 rfl (by kernel_rfl) (by intro _ _ e; cases e) ?_
    refine A.take 2 rfl (by kernel_rfl) (by intro _ _ e; cases e) ?_
    first | (refine A.takeM 3 rfl (by kernel_rfl) (by intro _ _ e; cases e) ?_) | (refine A.take 3 rfl (by kernel_rfl) (by intro _ _ e; cases e) ?_)
    first | (refine A.takeM 4 rfl (by kernel_rfl) (by intro _ _ e; cases e) ?_) | (refine A.take 4 rfl (by kernel_rfl) (by intro _ _ e; cases e) ?_)
    refine A.take 5 rfl (by kernel_rfl) (by intro _ _ e; cases e) ?_
    refine A.take 6 rfl (by kernel_rfl) (by intro _ _ e; cases e) ?_
    first | (refine A.takeM 7 rfl (by kernel_rfl) (by intro _ _ e; cases e) ?_) | (refine A.take 7 rfl (by kernel_rfl) (by intro _ _ e; cases e) ?_)
    refine A.take 8 rfl (by kernel_rfl) (by intro _ _ e; cases e) ?_
    refine A.take 9 rfl (by kernel_rfl) (by intro _ _ e; cases e) ?_
    refine A.take 10 rfl (by kernel_rfl) (by intro _ _ e; cases e) ?_
    refine A.one 11 rfl (by kernel_rfl) ?_
    refine W.yield1 (R := fun r h' => ∃ t, r = .bool t ∧ (t = true → Inv (i + 1) h') ∧ (t = false → Stop h')) (fun c hcc => hyield i hlt _ (hext _ _ _ hq Ext0.out) c (fun h'' q => hcc _ _ ⟨true, rfl, fun _ => q, fun e => (by cases e)⟩) (fun h'' x => hcc _ _ ⟨false, rfl, fun e => (by cases e), fun _ => x⟩)) (fun r h' hr => ?_)
    obtain ⟨t, rfl, ht, hf⟩ := hr
    refine A.hard (by rfl) ?_
    first | (refine A.takeM 12 rfl (by kernel_rfl) (by intro _ _ e; cases e) ?_) | (refine A.take 12 rfl (by kernel_rfl) (by intro _ _ e; cases e) ?_)
    refine Any.done (by kernel_rfl) ?_
    repeat (first | refine hS.seq ?_ | refine hS.regionW ?_ | refine W.pop ?_ | refine W.yes ?_ | refine W.no ?_ | refine W.box (fun _ _ => ?_) | refine W.alloc (fun _ _ => ?_) | refine W.store ?_ | refine W.bs (fun _ _ => ?_) | refine W.fn hS (fun _ _ => ?_) | refine WL.nil ?_ | refine R.condT hS ?_ | refine R.condF hS ?_ | refine hS.skip ?_ | refine hS.block ?_ | refine hS.inBlock ?_ | refine R.ret hS ?_ | refine R.fin hS ?_ | refine R.begin hS ?_ | refine R.endRound hS ?_ | refine R.retRound hS ?_ | refine R.retC hS ?_ | refine R.endRangeDone hS ?_ | refine R.endRangeRet hS ?_)
    refine R.cond hS (fun hT => ?_) (fun hF => ?_)
    · have e : t = false := by have := hT.out; simpa using this
      repeat (first | refine hS.seq ?_ | refine hS.regionW ?_ | refine W.pop ?_ | refine W.yes ?_ | refine W.no ?_ | refine W.box (fun _ _ => ?_) | refine W.alloc (fun _ _ => ?_) | refine W.store ?_ | refine W.bs (fun _ _ => ?_) | refine W.fn hS (fun _ _ => ?_) | refine WL.nil ?_ | refine R.condT hS ?_ | refine R.condF hS ?_ | refine hS.skip ?_ | refine hS.block ?_ | refine hS.inBlock ?_ | refine R.ret hS ?_ | refine R.fin hS ?_ | refine R.begin hS ?_ | refine R.endRound hS ?_ | refine R.retRound hS ?_ | refine R.retC hS ?_ | refine R.endRangeDone hS ?_ | refine R.endRangeRet hS ?_)
      exact hstop _ (hf e)
    · have e : t = true := by have := hF.out; simpa using this
      repeat (first | refine hS.seq ?_ | refine hS.regionW ?_ | refine W.pop ?_ | refine W.yes ?_ | refine W.no ?_ | refine W.box (fun _ _ => ?_) | refine W.alloc (fun _ _ => ?_) | refine W.store ?_ | refine W.bs (fun _ _ => ?_) | refine W.fn hS (fun _ _ => ?_) | refine WL.nil ?_ | refine R.condT hS ?_ | refine R.condF hS ?_ | refine hS.skip ?_ | refine hS.block ?_ | refine hS.inBlock ?_ | refine R.ret hS ?_ | refine R.fin hS ?_ | refine R.begin hS ?_ | refine R.endRound hS ?_ | refine R.retRound hS ?_ | refine R.retC hS ?_ | refine R.endRangeDone hS ?_ | refine R.endRangeRet hS ?_)
      refine hS.inLoop ?_
      exact ih (i + 1) _ _ (by omega) ⟨hlt, inferInstance, inferInstance, inferInstance, inferInstance, by have e : ((i + 1 : Nat) : Int) = (i : Int) + 1 := (by omega); rw [e]; infer_instance, ht e⟩
  · have t1 : IsC (decide ((i : Int) < (l.length : Int))) false := ⟨by simp; omega⟩
    have e : i = l.length := by omega
    subst e
    repeat (first | refine hS.seq ?_ | refine hS.regionW ?_ | refine W.pop ?_ | refine W.yes ?_ | refine W.no ?_ | refine W.box (fun _ _ => ?_) | refine W.alloc (fun _ _ => ?_) | refine W.store ?_ | refine W.bs (fun _ _ => ?_) | refine W.fn hS (fun _ _ => ?_) | refine WL.nil ?_ | refine R.condT hS ?_ | refine R.condF hS ?_ | refine hS.skip ?_ | refine hS.block ?_ | refine hS.inBlock ?_ | refine R.ret hS ?_ | refine R.fin hS ?_ | refine R.begin hS ?_ | refine R.endRound hS ?_ | refine R.retRound hS ?_ | refine R.retC hS ?_ | refine R.endRangeDone hS ?_ | refine R.endRangeRet hS ?_)
    refine hS.exit rfl ?_
    repeat (first | refine hS.seq ?_ | refine hS.regionW ?_ | refine W.pop ?_ | refine W.yes ?_ | refine W.no ?_ | refine W.box (fun _ _ => ?_) | refine W.alloc (fun _ _ => ?_) | refine W.store ?_ | refine W.bs (fun _ _ => ?_) | refine W.fn hS (fun _ _ => ?_) | refine WL.nil ?_ | refine R.condT hS ?_ | refine R.condF hS ?_ | refine hS.skip ?_ | refine hS.block ?_ | refine hS.inBlock ?_ | refine R.ret hS ?_ | refine R.fin hS ?_ | refine R.begin hS ?_ | refine R.endRound hS ?_ | refine R.retRound hS ?_ | refine R.retC hS ?_ | refine R.endRangeDone hS ?_ | refine R.endRangeRet hS ?_)
    exact hdone _ hq

structure Bx where
  a : Int
  b : Int
  c : Int
  d : Int
def Bx.cs (x : Bx) : List Value := [.int .i64 x.a, .int .i64 x.b, .int .i64 x.c, .int .i64 x.d]
instance elBx {l : List Bx} {i : Nat} {x : Bx} [q : IxC l i x] : ElC (l.map Bx.cs) i [.int .i64 x.a, .int .i64 x.b, .int .i64 x.c, .int .i64 x.d] := ⟨by simp [q.out, Bx.cs]⟩
def placedV (p : Pt) : Bool := decide ((0 ≤ p.u ∧ p.u ≤ 400) ∧ (0 ≤ p.v ∧ p.v ≤ 400))
/-- How far a point lies to the left of edge i. -/
def leftAt (l : List Pt) (i : Nat) (p : Pt) : Int := leftV (Pt.at l i).u (Pt.at l i).v (Pt.at l ((i + 1) % l.length)).u (Pt.at l ((i + 1) % l.length)).v p.u p.v
def insideV (x : Bx) (p : Pt) : Bool := decide (x.a < p.u ∧ p.u < x.c ∧ x.b < p.v ∧ p.v < x.d)
def hasV (l : List Pt) (lh : List Bx) (p : Pt) : Bool := placedV p && (List.range l.length).all (fun i => !decide (leftAt l i p < 0)) && !(lh.any fun x => insideV x p)

instance c36 {l : List Pt} {lh : List Bx} {vo vh : Value} {a b : Int} {h : LH} [so : SingleC vo] [sh : SingleC vh] [hvo : SlC h 2 vo (l.map Pt.c)] [hvh : SlC h 4 vh (lh.map Bx.cs)] [hn : GtC l.length 4611686018427387904] [hn2 : GtC lh.length 4611686018427387904] :
    FnC Tryd.prog 36 [.agg #[vo, vh], .agg #[.int .i64 a, .int .i64 b]] h (.bool (hasV l lh ⟨a, b⟩)) := by
  have hvo' : SlAt h 2 vo (l.map Pt.c) := ⟨hvo.out⟩
  have hvh' : SlAt h 4 vh (lh.map Bx.cs) := ⟨hvh.out⟩
  have hn := hn.out
  have hn2 := hn2.out
  refine ⟨Con.intro (m := 2) Tryd.func36 rfl Tryd.ntmps36 rfl (by decide) ?_⟩
  intro main S hS c cs hc
  repeat (first | refine hS.seq ?_ | refine hS.regionW ?_ | refine W.pop ?_ | refine W.yes ?_ | refine W.no ?_ | refine W.box (fun _ _ => ?_) | refine W.alloc (fun _ _ => ?_) | refine W.store ?_ | refine W.bs (fun _ _ => ?_) | refine W.fn hS (fun _ _ => ?_) | refine WL.nil ?_ | refine R.condT hS ?_ | refine R.condF hS ?_ | refine hS.skip ?_ | refine hS.block ?_ | refine hS.inBlock ?_ | refine R.ret hS ?_ | refine R.fin hS ?_ | refine R.begin hS ?_ | refine R.endRound hS ?_ | refine R.retRound hS ?_ | refine R.retC hS ?_ | refine R.endRangeDone hS ?_ | refine R.endRangeRet hS ?_)
  rename_i p2 _ p3 _ p4 _ h1 x1
  refine R.cond hS (fun hT => ?_) (fun hF => ?_)
  · have e : placedV ⟨a, b⟩ = false := by have := hT.out; simp only [Bool.not_eq_true'] at this; exact this
    repeat (first | refine hS.seq ?_ | refine hS.regionW ?_ | refine W.pop ?_ | refine W.yes ?_ | refine W.no ?_ | refine W.box (fun _ _ => ?_) | refine W.alloc (fun _ _ => ?_) | refine W.store ?_ | refine W.bs (fun _ _ => ?_) | refine W.fn hS (fun _ _ => ?_) | refine WL.nil ?_ | refine R.condT hS ?_ | refine R.condF hS ?_ | refine hS.skip ?_ | refine hS.block ?_ | refine hS.inBlock ?_ | refine R.ret hS ?_ | refine R.fin hS ?_ | refine R.begin hS ?_ | refine R.endRound hS ?_ | refine R.retRound hS ?_ | refine R.retC hS ?_ | refine R.endRangeDone hS ?_ | refine R.endRangeRet hS ?_)
    refine hc _ _ ⟨?_, Ext0.out⟩
    simp [resOf, hasV, e]
  · have e : placedV ⟨a, b⟩ = true := by have := hF.out; simpa [placedV] using this
    repeat (first | refine hS.seq ?_ | refine hS.regionW ?_ | refine W.pop ?_ | refine W.yes ?_ | refine W.no ?_ | refine W.box (fun _ _ => ?_) | refine W.alloc (fun _ _ => ?_) | refine W.store ?_ | refine W.bs (fun _ _ => ?_) | refine W.fn hS (fun _ _ => ?_) | refine WL.nil ?_ | refine R.condT hS ?_ | refine R.condF hS ?_ | refine hS.skip ?_ | refine hS.block ?_ | refine hS.inBlock ?_ | refine R.ret hS ?_ | refine R.fin hS ?_ | refine R.begin hS ?_ | refine R.endRound hS ?_ | refine R.retRound hS ?_ | refine R.retC hS ?_ | refine R.endRangeDone hS ?_ | refine R.endRangeRet hS ?_)
    refine W.call hS c75 (fun r h2 hr => ?_)
    obtain ⟨p, rfl, hp, rfl⟩ := hr
    repeat (first | refine hS.seq ?_ | refine hS.regionW ?_ | refine W.pop ?_ | refine W.yes ?_ | refine W.no ?_ | refine W.box (fun _ _ => ?_) | refine W.alloc (fun _ _ => ?_) | refine W.store ?_ | refine W.bs (fun _ _ => ?_) | refine W.fn hS (fun _ _ => ?_) | refine WL.nil ?_ | refine R.condT hS ?_ | refine R.condF hS ?_ | refine hS.skip ?_ | refine hS.block ?_ | refine hS.inBlock ?_ | refine R.ret hS ?_ | refine R.fin hS ?_ | refine R.begin hS ?_ | refine R.endRound hS ?_ | refine R.retRound hS ?_ | refine R.retC hS ?_ | refine R.endRangeDone hS ?_ | refine R.endRangeRet hS ?_)
    refine R.range hS (fun r lp hs tm asg bd et ea eb xs fr fl nrl gr gl orr ol => ?_)
    refine it116 hS (l := l) (Nat.le_of_lt hn) (fun i h' => Ext hs h' ∧ ∀ j, j < i → ¬ leftAt l j ⟨a, b⟩ < 0) (fun h'' => HGC h'' p4 (.cells #[.bool false] 4 (0, 0)) ∧ (∃ r', HGC h'' lp (.loop (lpr .done (some .ret) 36 tm #[12] asg bd r'))) ∧ OwnC h'' lp ∧ HGC h'' r (.deferred (some [])) ∧ OwnC h'' r ∧ Ext0 h h'' ∧ ∃ i, i < l.length ∧ leftAt l i ⟨a, b⟩ < 0) _ _ (fun i h1 h2 x y => ⟨x.1.trans y, x.2⟩) (fun i h' x => by have : ExtC hs h' := ⟨x.1⟩; exact ⟨inferInstance, inferInstance, inferInstance⟩) ?_ ?_ ?_ ⟨Ext.refl _, by intro j hj; omega⟩
    · rintro i hi h' ⟨hx, hq⟩ c ht hf
      have hxc : ExtC hs h' := ⟨hx⟩
      refine R.round et ea eb ?_
      simp only [sideV]
      repeat (first | refine hS.seq ?_ | refine hS.regionW ?_ | refine W.pop ?_ | refine W.yes ?_ | refine W.no ?_ | refine W.box (fun _ _ => ?_) | refine W.alloc (fun _ _ => ?_) | refine W.store ?_ | refine W.bs (fun _ _ => ?_) | refine W.fn hS (fun _ _ => ?_) | refine WL.nil ?_ | refine R.condT hS ?_ | refine R.condF hS ?_ | refine hS.skip ?_ | refine hS.block ?_ | refine hS.inBlock ?_ | refine R.ret hS ?_ | refine R.fin hS ?_ | refine R.begin hS ?_ | refine R.endRound hS ?_ | refine R.retRound hS ?_ | refine R.retC hS ?_ | refine R.endRangeDone hS ?_ | refine R.endRangeRet hS ?_)
      refine R.cond hS (fun hT => ?_) (fun hF => ?_)
      · repeat (first | refine hS.seq ?_ | refine hS.regionW ?_ | refine W.pop ?_ | refine W.yes ?_ | refine W.no ?_ | refine W.box (fun _ _ => ?_) | refine W.alloc (fun _ _ => ?_) | refine W.store ?_ | refine W.bs (fun _ _ => ?_) | refine W.fn hS (fun _ _ => ?_) | refine WL.nil ?_ | refine R.condT hS ?_ | refine R.condF hS ?_ | refine hS.skip ?_ | refine hS.block ?_ | refine hS.inBlock ?_ | refine R.ret hS ?_ | refine R.fin hS ?_ | refine R.begin hS ?_ | refine R.endRound hS ?_ | refine R.retRound hS ?_ | refine R.retC hS ?_ | refine R.endRangeDone hS ?_ | refine R.endRangeRet hS ?_)
        exact hf _ ⟨inferInstance, ⟨_, inferInstance⟩, inferInstance, inferInstance, inferInstance, inferInstance, i, hi, by simpa [leftAt] using hT.out⟩
      · repeat (first | refine hS.seq ?_ | refine hS.regionW ?_ | refine W.pop ?_ | refine W.yes ?_ | refine W.no ?_ | refine W.box (fun _ _ => ?_) | refine W.alloc (fun _ _ => ?_) | refine W.store ?_ | refine W.bs (fun _ _ => ?_) | refine W.fn hS (fun _ _ => ?_) | refine WL.nil ?_ | refine R.condT hS ?_ | refine R.condF hS ?_ | refine hS.skip ?_ | refine hS.block ?_ | refine hS.inBlock ?_ | refine R.ret hS ?_ | refine R.fin hS ?_ | refine R.begin hS ?_ | refine R.endRound hS ?_ | refine R.retRound hS ?_ | refine R.retC hS ?_ | refine R.endRangeDone hS ?_ | refine R.endRangeRet hS ?_)
        refine ht _ ⟨ExtB.back gl.out, ?_⟩
        intro j' hj'
        by_cases e : j' = i
        · subst e; simpa [leftAt] using hF.out
        · exact hq j' (by omega)
    · rintro h' ⟨hx, hq⟩
      have hx' : ExtC hs h' := ⟨hx⟩
      repeat (first | refine hS.seq ?_ | refine hS.regionW ?_ | refine W.pop ?_ | refine W.yes ?_ | refine W.no ?_ | refine W.box (fun _ _ => ?_) | refine W.alloc (fun _ _ => ?_) | refine W.store ?_ | refine W.bs (fun _ _ => ?_) | refine W.fn hS (fun _ _ => ?_) | refine WL.nil ?_ | refine R.condT hS ?_ | refine R.condF hS ?_ | refine hS.skip ?_ | refine hS.block ?_ | refine hS.inBlock ?_ | refine R.ret hS ?_ | refine R.fin hS ?_ | refine R.begin hS ?_ | refine R.endRound hS ?_ | refine R.retRound hS ?_ | refine R.retC hS ?_ | refine R.endRangeDone hS ?_ | refine R.endRangeRet hS ?_)
      refine W.fn hS (hc := c68 (g := 77) (cap := [.pointer (some ⟨p3, 0, none⟩)]) (l := lh) (toC := Bx.cs) (p := fun x => insideV x ⟨a, b⟩) (Nat.le_of_lt hn2) (fun x _ h2 hx2 => by
        have g3 : HgAt h2 p3 (.cells (List.toArray [.int .i64 a, .int .i64 b]) 48 (0, 0)) := ⟨HG.ext HGC.out hx2.out⟩
        exact c77 (h := h2) (bp := p3) (a := x.a) (b := x.b) (c := x.c) (d := x.d) (p := a) (q := b) (t := 48))) (fun _ _ => ?_)
      repeat (first | refine hS.seq ?_ | refine hS.regionW ?_ | refine W.pop ?_ | refine W.yes ?_ | refine W.no ?_ | refine W.box (fun _ _ => ?_) | refine W.alloc (fun _ _ => ?_) | refine W.store ?_ | refine W.bs (fun _ _ => ?_) | refine W.fn hS (fun _ _ => ?_) | refine WL.nil ?_ | refine R.condT hS ?_ | refine R.condF hS ?_ | refine hS.skip ?_ | refine hS.block ?_ | refine hS.inBlock ?_ | refine R.ret hS ?_ | refine R.fin hS ?_ | refine R.begin hS ?_ | refine R.endRound hS ?_ | refine R.retRound hS ?_ | refine R.retC hS ?_ | refine R.endRangeDone hS ?_ | refine R.endRangeRet hS ?_)
      refine hc _ _ ⟨?_, Ext0.out⟩
      have : (List.range l.length).all (fun i => !decide (leftAt l i ⟨a, b⟩ < 0)) = true := by
        simp only [List.all_eq_true, List.mem_range, Bool.not_eq_true', decide_eq_false_iff_not]
        exact hq
      simp [resOf, hasV, e, this]
    · rintro h'' ⟨g4, ⟨r', gl2⟩, ol2, gr2, or2, hx, i, hi, hlt⟩
      repeat (first | refine hS.seq ?_ | refine hS.regionW ?_ | refine W.pop ?_ | refine W.yes ?_ | refine W.no ?_ | refine W.box (fun _ _ => ?_) | refine W.alloc (fun _ _ => ?_) | refine W.store ?_ | refine W.bs (fun _ _ => ?_) | refine W.fn hS (fun _ _ => ?_) | refine WL.nil ?_ | refine R.condT hS ?_ | refine R.condF hS ?_ | refine hS.skip ?_ | refine hS.block ?_ | refine hS.inBlock ?_ | refine R.ret hS ?_ | refine R.fin hS ?_ | refine R.begin hS ?_ | refine R.endRound hS ?_ | refine R.retRound hS ?_ | refine R.retC hS ?_ | refine R.endRangeDone hS ?_ | refine R.endRangeRet hS ?_)
      refine hc _ _ ⟨?_, Ext0.out⟩
      have : (List.range l.length).all (fun i => !decide (leftAt l i ⟨a, b⟩ < 0)) = false := by
        rw [List.all_eq_false]
        exact ⟨i, by simpa using hi, by simp [hlt]⟩
      simp [resOf, hasV, this]
end Go.Proofs.YtankmjkogcbnfaaDoor
namespace Go.Proofs.YtankmjkogcbnfaaDoor
open Go Go.SL Go.Conc
attribute [local irreducible] putE ofL Look Nth Ev HG Own SubL Wr Sgl EvL LH.upd WL OpS Any Con PopW Pop
structure Mk where
  u : Int
  v : Int
  lo : Int
  hi : Int
def Mk.c (x : Mk) : List Value := [.int .i64 x.u, .int .i64 x.v, .int .i64 x.lo, .int .i64 x.hi]
instance elMk {l : List Mk} {i : Nat} {x : Mk} [q : IxC l i x] : ElC (l.map Mk.c) i [.int .i64 x.u, .int .i64 x.v, .int .i64 x.lo, .int .i64 x.hi] := ⟨by simp [q.out, Mk.c]⟩
/-- One mark more. -/
def bStep (st a b : Int) (r : Int × Int) (m : Mk) : Int × Int := (max r.1 (w64 (m.lo - w64 (st * farV a b m.u m.v))), min r.2 (w64 (m.hi + w64 (st * farV a b m.u m.v))))
def boundsV (st lo hi : Int) (lm : List Mk) (a b : Int) : Int × Int := lm.foldl (bStep st a b) (lo, hi)
theorem take_fold {α β : Type} (f : β → α → β) (z : β) (l : List α) (i : Nat) (x : α) (h : l[i]? = some x) : (l.take (i + 1)).foldl f z = f ((l.take i).foldl f z) x := by
  have hi := (List.getElem?_eq_some_iff.1 h).1
  have hx : l[i] = x := (List.getElem?_eq_some_iff.1 h).2
  rw [List.take_succ_eq_append_getElem hi, List.foldl_append, hx]; rfl

instance c37 {lm : List Mk} {vo vh vm : Value} {st lo hi a b : Int} {h : LH} [so : SingleC vo] [sh : SingleC vh] [sm : SingleC vm] [hvm : SlC h 4 vm (lm.map Mk.c)] [hn : GtC lm.length 4611686018427387904] :
    FnC Tryd.prog 37 [.agg #[vo, vh, .int .i64 st, .int .i64 lo, .int .i64 hi, vm], .agg #[.int .i64 a, .int .i64 b]] h (.agg #[.int .i64 (boundsV st lo hi lm a b).1, .int .i64 (boundsV st lo hi lm a b).2]) := by
  have hvm' : SlAt h 4 vm (lm.map Mk.c) := ⟨hvm.out⟩
  have hn := hn.out
  refine ⟨Con.intro (m := 2) Tryd.func37 rfl Tryd.ntmps37 rfl (by decide) ?_⟩
  intro main S hS c cs hc
  repeat (first | refine hS.seq ?_ | refine hS.regionW ?_ | refine W.pop ?_ | refine W.yes ?_ | refine W.no ?_ | refine W.box (fun _ _ => ?_) | refine W.alloc (fun _ _ => ?_) | refine W.store ?_ | refine W.bs (fun _ _ => ?_) | refine W.fn hS (fun _ _ => ?_) | refine WL.nil ?_ | refine R.condT hS ?_ | refine R.condF hS ?_ | refine hS.skip ?_ | refine hS.block ?_ | refine hS.inBlock ?_ | refine R.ret hS ?_ | refine R.fin hS ?_ | refine R.begin hS ?_ | refine R.endRound hS ?_ | refine R.retRound hS ?_ | refine R.retC hS ?_ | refine R.endRangeDone hS ?_ | refine R.endRangeRet hS ?_)
  rename_i p2 f2 p3 f3 p4 f4 p5 f5
  refine hS.loop ?_
  have n25 : NeB p2 p5 := inferInstance
  have n35 : NeB p3 p5 := inferInstance
  have n45 : NeB p4 p5 := inferInstance
  have z5 : Fresh0 h p5 := inferInstance
  have z4 : Fresh0 h p4 := inferInstance
  refine loop_ind (fun (i : Nat) => lm.length - i) (fun i E h' => i ≤ lm.length ∧ LookC E 2 (.pointer (some ⟨p2, 0, none⟩)) ∧ LookC E 3 (.pointer (some ⟨p3, 0, none⟩)) ∧ LookC E 4 (.pointer (some ⟨p4, 0, none⟩)) ∧ LookC E 5 (.pointer (some ⟨p5, 0, none⟩)) ∧ LookC E 12 vm ∧ LookC E 13 (.int .i64 lm.length) ∧ LookC E 14 (.int .i64 (i : Nat)) ∧ Ext0 h h' ∧
    HGC h' p2 (.cells (List.toArray [vo, vh, .int .i64 st, .int .i64 lo, .int .i64 hi, vm]) 30 (0, 0)) ∧ HGC h' p3 (.cells (List.toArray [.int .i64 a, .int .i64 b]) 48 (0, 0)) ∧ HGC h' p4 (.cells (List.toArray [.int .i64 0, .int .i64 0]) 27 (0, 0)) ∧ OwnC h' p4 ∧
    HGC h' p5 (.cells (List.toArray [.int .i64 ((lm.take i).foldl (bStep st a b) (lo, hi)).1, .int .i64 ((lm.take i).foldl (bStep st a b) (lo, hi)).2]) 27 (0, 0)) ∧ OwnC h' p5) ?_ 0 _ _ ⟨Nat.zero_le _, inferInstance, inferInstance, inferInstance, inferInstance, inferInstance, inferInstance, inferInstance, inferInstance, inferInstance, inferInstance, inferInstance, inferInstance, (by simp only [List.take_zero, List.foldl_nil]; infer_instance), inferInstance⟩
  rintro i E h' ⟨hi, l2, l3, l4, l5, l12, l13, l14, hx, g2, g3, g4, o4, g5, o5⟩ ih
  by_cases hlt : i < lm.length
  · have ix : IxC lm i lm[i] := ⟨by simp [hlt]⟩
    have t1 : IsC (decide ((i : Int) < (lm.length : Int))) true := ⟨by simp [hlt]⟩
    have nw : NoW ((i : Int) + 1) := NoW.of (by omega) (by omega)
    repeat (first | refine hS.seq ?_ | refine hS.regionW ?_ | refine W.pop ?_ | refine W.yes ?_ | refine W.no ?_ | refine W.box (fun _ _ => ?_) | refine W.alloc (fun _ _ => ?_) | refine W.store ?_ | refine W.bs (fun _ _ => ?_) | refine W.fn hS (fun _ _ => ?_) | refine WL.nil ?_ | refine R.condT hS ?_ | refine R.condF hS ?_ | refine hS.skip ?_ | refine hS.block ?_ | refine hS.inBlock ?_ | refine R.ret hS ?_ | refine R.fin hS ?_ | refine R.begin hS ?_ | refine R.endRound hS ?_ | refine R.retRound hS ?_ | refine R.retC hS ?_ | refine R.endRangeDone hS ?_ | refine R.endRangeRet hS ?_)
    refine hS.regionA mixed [] ?_
    refine A.take 0 rfl (by kernel_rfl) (by intro _ _ e; cases e) ?_
    refine A.take 1 rfl (by kernel_rfl) (by intro _ _ e; cases e) ?_
    refine A.take 2 rfl (by kernel_rfl) (by intro _ _ e; cases e) ?_
    refine A.take 3 rfl (by kernel_rfl) (by intro _ _ e; cases e) ?_
    refine A.take 4 rfl (by kernel_rfl) (by intro _ _ e; cases e) ?_
    refine A.one 5 rfl (by kernel_rfl) ?_
    first | refine W.pop ?_ | refine W.fn hS (fun _ _ => ?_) | refine W.bs (fun _ _ => ?_) | refine W.box (fun _ _ => ?_) | refine W.alloc (fun _ _ => ?_) | refine W.store ?_
    refine A.soft ?_
    refine A.take 6 rfl (by kernel_rfl) (by intro _ _ e; cases e) ?_
    refine A.take 7 rfl (by kernel_rfl) (by intro _ _ e; cases e) ?_
    refine Any.done (by kernel_rfl) ?_
    repeat (first | refine hS.seq ?_ | refine hS.regionW ?_ | refine W.pop ?_ | refine W.yes ?_ | refine W.no ?_ | refine W.box (fun _ _ => ?_) | refine W.alloc (fun _ _ => ?_) | refine W.store ?_ | refine W.bs (fun _ _ => ?_) | refine W.fn hS (fun _ _ => ?_) | refine WL.nil ?_ | refine R.condT hS ?_ | refine R.condF hS ?_ | refine hS.skip ?_ | refine hS.block ?_ | refine hS.inBlock ?_ | refine R.ret hS ?_ | refine R.fin hS ?_ | refine R.begin hS ?_ | refine R.endRound hS ?_ | refine R.retRound hS ?_ | refine R.retC hS ?_ | refine R.endRangeDone hS ?_ | refine R.endRangeRet hS ?_)
    refine hS.inLoop ?_
    refine ih (i + 1) _ _ (by omega) ⟨hlt, inferInstance, inferInstance, inferInstance, inferInstance, inferInstance, inferInstance, by have e : ((i + 1 : Nat) : Int) = (i : Int) + 1 := (by omega); rw [e]; infer_instance, inferInstance, inferInstance, inferInstance, inferInstance, inferInstance, ?_, inferInstance⟩
    rw [take_fold _ _ _ _ _ ix.out]
    simp only [bStep]
    infer_instance
  · have t1 : IsC (decide ((i : Int) < (lm.length : Int))) false := ⟨by simp; omega⟩
    have e : i = lm.length := by omega
    subst e
    rw [List.take_length] at g5
    repeat (first | refine hS.seq ?_ | refine hS.regionW ?_ | refine W.pop ?_ | refine W.yes ?_ | refine W.no ?_ | refine W.box (fun _ _ => ?_) | refine W.alloc (fun _ _ => ?_) | refine W.store ?_ | refine W.bs (fun _ _ => ?_) | refine W.fn hS (fun _ _ => ?_) | refine WL.nil ?_ | refine R.condT hS ?_ | refine R.condF hS ?_ | refine hS.skip ?_ | refine hS.block ?_ | refine hS.inBlock ?_ | refine R.ret hS ?_ | refine R.fin hS ?_ | refine R.begin hS ?_ | refine R.endRound hS ?_ | refine R.retRound hS ?_ | refine R.retC hS ?_ | refine R.endRangeDone hS ?_ | refine R.endRangeRet hS ?_)
    refine hS.exit rfl ?_
    repeat (first | refine hS.seq ?_ | refine hS.regionW ?_ | refine W.pop ?_ | refine W.yes ?_ | refine W.no ?_ | refine W.box (fun _ _ => ?_) | refine W.alloc (fun _ _ => ?_) | refine W.store ?_ | refine W.bs (fun _ _ => ?_) | refine W.fn hS (fun _ _ => ?_) | refine WL.nil ?_ | refine R.condT hS ?_ | refine R.condF hS ?_ | refine hS.skip ?_ | refine hS.block ?_ | refine hS.inBlock ?_ | refine R.ret hS ?_ | refine R.fin hS ?_ | refine R.begin hS ?_ | refine R.endRound hS ?_ | refine R.retRound hS ?_ | refine R.retC hS ?_ | refine R.endRangeDone hS ?_ | refine R.endRangeRet hS ?_)
    exact hc _ _ ⟨rfl, Ext0.out⟩
end Go.Proofs.YtankmjkogcbnfaaDoor
