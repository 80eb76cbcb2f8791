/-
  Plain: the steps that lead on from a spot, and the search through them.
-/
import Derived.Test.YtankmjkogcbnfaaDoorGe
import Derived.Test.YtankmjkogcbnfaaDoorGb
import Derived.Laws.StructEq
namespace Go.Proofs.YtankmjkogcbnfaaDoor
open Go Go.SL Go.Conc
attribute [local irreducible] putE ofL Look Nth Ev HG Own SubL Wr Sgl EvL LH.upd WL OpS Any Con PopW Pop
def nameB (r : Int) : Bool := decide ((97 ≤ r ∧ r ≤ 122) ∨ (48 ≤ r ∧ r ≤ 57) ∨ r = 45)
instance c178 {r : Int} {h : LH} : FnC Tryd.prog 178 [.int .i32 r] h (.bool (!nameB r)) := by
  refine ⟨Con.intro (m := 1) Tryd.func178 rfl Tryd.ntmps178 rfl (by decide) ?_⟩
  intro main S hS c cs hc
  repeat' (first | (first | refine hS.seq ?_ | refine hS.regionW ?_ | refine W.pop ?_ | refine W.yes ?_ | refine W.no ?_ | refine W.box (fun _ _ => ?_) | refine W.alloc (fun _ _ => ?_) | refine W.store ?_ | refine W.bs (fun _ _ => ?_) | refine W.fn hS (fun _ _ => ?_) | refine WL.nil ?_ | refine R.condT hS ?_ | refine R.condF hS ?_ | refine hS.skip ?_ | refine hS.block ?_ | refine hS.inBlock ?_ | refine R.ret hS ?_ | refine R.fin hS ?_ | refine R.begin hS ?_ | refine R.endRound hS ?_ | refine R.retRound hS ?_ | refine R.retC hS ?_ | refine R.endRangeDone hS ?_ | refine R.endRangeRet hS ?_) | refine W.split (fun _ => ?_) (fun _ => ?_) | refine R.cond hS (fun _ => ?_) (fun _ => ?_))
  all_goals
    refine hc _ _ ⟨?_, Ext0.out⟩
    clear hc
    simp only [isC_iff, beq_iff_eq, beq_eq_false_iff_ne, decide_eq_true_eq, decide_eq_false_iff_not] at *
    simp only [resOf, nameB, Value.bool.injEq]
    rw [Bool.eq_iff_iff]
    simp
    omega

/-- What is sought in a string. -/
def inB (q : UInt8 → Bool) (l : List UInt8) (i : Nat) : Bool := match l[i]? with | some x => q x | none => false
theorem any_of' {l : List UInt8} {p : UInt8 → Bool} : decide (findI (inB p l) l.length ≥ 0) = l.any p := by
  rw [Bool.eq_iff_iff, decide_eq_true_iff, ge_iff_le, findI_ge, List.any_eq_true]
  constructor
  · rintro ⟨i, hi, hq⟩
    simp only [inB, List.getElem?_eq_getElem hi] at hq
    exact ⟨l[i], List.getElem_mem hi, hq⟩
  · rintro ⟨x, hx, hp⟩
    obtain ⟨i, hi, rfl⟩ := List.mem_iff_getElem.1 hx
    exact ⟨i, hi, by simp only [inB, List.getElem?_eq_getElem hi]; exact hp⟩
theorem c204 {l : List UInt8} {g : FuncId} {cap : List Value} {q : UInt8 → Bool} {h : LH} [GoC Tryd.prog g] (hn : l.length ≤ 4611686018427387904) (ha : ∀ u ∈ l, u.toNat < 128) (hq : ∀ u ∈ l, ∀ (h' : LH) [Ext0 h h'], FnC Tryd.prog g (.int .i32 u.toNat :: cap) h' (.bool (q u))) :
    FnC Tryd.prog 204 [.string ⟨l.toArray⟩, .func (.func g) #[] cap.toArray, .bool true] h (.int .i64 (findI (inB q l) l.length)) := by
  refine ⟨Con.intro (m := 3) Tryd.func204 rfl Tryd.ntmps204 rfl (by decide) ?_⟩
  intro main S hS c cs hc
  repeat (first | refine hS.seq ?_ | refine hS.regionW ?_ | refine W.pop ?_ | refine W.yes ?_ | refine W.no ?_ | refine W.box (fun _ _ => ?_) | refine W.alloc (fun _ _ => ?_) | refine W.store ?_ | refine W.bs (fun _ _ => ?_) | refine W.fn hS (fun _ _ => ?_) | refine WL.nil ?_ | refine R.condT hS ?_ | refine R.condF hS ?_ | refine hS.skip ?_ | refine hS.block ?_ | refine hS.inBlock ?_ | refine R.ret hS ?_ | refine R.fin hS ?_ | refine R.begin hS ?_ | refine R.endRound hS ?_ | refine R.retRound hS ?_ | refine R.retC hS ?_ | refine R.endRangeDone hS ?_ | refine R.endRangeRet hS ?_)
  refine W.rangeStr (fun p hp => ?_)
  repeat (first | refine hS.seq ?_ | refine hS.regionW ?_ | refine W.pop ?_ | refine W.yes ?_ | refine W.no ?_ | refine W.box (fun _ _ => ?_) | refine W.alloc (fun _ _ => ?_) | refine W.store ?_ | refine W.bs (fun _ _ => ?_) | refine W.fn hS (fun _ _ => ?_) | refine WL.nil ?_ | refine R.condT hS ?_ | refine R.condF hS ?_ | refine hS.skip ?_ | refine hS.block ?_ | refine hS.inBlock ?_ | refine R.ret hS ?_ | refine R.fin hS ?_ | refine R.begin hS ?_ | refine R.endRound hS ?_ | refine R.retRound hS ?_ | refine R.retC hS ?_ | refine R.endRangeDone hS ?_ | refine R.endRangeRet hS ?_)
  refine hS.loop ?_
  refine loop_ind (fun (i : Nat) => l.length - i) (fun i E h' => i ≤ l.length ∧ LookC E 1 (.func (.func g) #[] cap.toArray) ∧ LookC E 2 (.bool true) ∧ LookC E 10 (.pointer (some ⟨p, 0, none⟩)) ∧ Ext0 h h' ∧ HGC h' p (.stringIter ⟨l.toArray⟩ i) ∧ OwnC h' p ∧ Fresh0 h p ∧ ∀ j, j < i → inB q l j = false) ?_ 0 _ _ ⟨Nat.zero_le _, inferInstance, inferInstance, inferInstance, inferInstance, inferInstance, inferInstance, inferInstance, by simp⟩
  rintro i E h' ⟨hi, l1, l2, l10, hx, hg, ho, hf, hb⟩ ih
  by_cases hlt : i < l.length
  · have by1 : ByC l i l[i] := ⟨by simp [hlt]⟩
    have hqi : ∀ (h' : LH) [Ext0 h h'], FnC Tryd.prog g (.int .i32 l[i].toNat :: cap) h' (.bool (q l[i])) := fun h' _ => hq _ (List.getElem_mem hlt) h'
    refine hS.seq ?_
    refine hS.regionW ?_
    refine W.nextStr (s := l) (i := i) (u := l[i]) (ha _ (List.getElem_mem hlt)) ?_
    repeat (first | refine hS.seq ?_ | refine hS.regionW ?_ | refine W.pop ?_ | refine W.yes ?_ | refine W.no ?_ | refine W.box (fun _ _ => ?_) | refine W.alloc (fun _ _ => ?_) | refine W.store ?_ | refine W.bs (fun _ _ => ?_) | refine W.fn hS (fun _ _ => ?_) | refine WL.nil ?_ | refine R.condT hS ?_ | refine R.condF hS ?_ | refine hS.skip ?_ | refine hS.block ?_ | refine hS.inBlock ?_ | refine R.ret hS ?_ | refine R.fin hS ?_ | refine R.begin hS ?_ | refine R.endRound hS ?_ | refine R.retRound hS ?_ | refine R.retC hS ?_ | refine R.endRangeDone hS ?_ | refine R.endRangeRet hS ?_)
    refine R.cond hS (fun hT => ?_) (fun hF => ?_)
    · have hT' : q l[i] = true := by have := hT.out; simpa using this
      repeat (first | refine hS.seq ?_ | refine hS.regionW ?_ | refine W.pop ?_ | refine W.yes ?_ | refine W.no ?_ | refine W.box (fun _ _ => ?_) | refine W.alloc (fun _ _ => ?_) | refine W.store ?_ | refine W.bs (fun _ _ => ?_) | refine W.fn hS (fun _ _ => ?_) | refine WL.nil ?_ | refine R.condT hS ?_ | refine R.condF hS ?_ | refine hS.skip ?_ | refine hS.block ?_ | refine hS.inBlock ?_ | refine R.ret hS ?_ | refine R.fin hS ?_ | refine R.begin hS ?_ | refine R.endRound hS ?_ | refine R.retRound hS ?_ | refine R.retC hS ?_ | refine R.endRangeDone hS ?_ | refine R.endRangeRet hS ?_)
      have e := findI_some (q := (inB q l)) hlt (by simp [inB, hlt, hT']) hb
      refine hc _ _ ⟨by simp [resOf, e], Ext0.out⟩
    · have hF' : q l[i] = false := by have := hF.out; simpa using this
      repeat (first | refine hS.seq ?_ | refine hS.regionW ?_ | refine W.pop ?_ | refine W.yes ?_ | refine W.no ?_ | refine W.box (fun _ _ => ?_) | refine W.alloc (fun _ _ => ?_) | refine W.store ?_ | refine W.bs (fun _ _ => ?_) | refine W.fn hS (fun _ _ => ?_) | refine WL.nil ?_ | refine R.condT hS ?_ | refine R.condF hS ?_ | refine hS.skip ?_ | refine hS.block ?_ | refine hS.inBlock ?_ | refine R.ret hS ?_ | refine R.fin hS ?_ | refine R.begin hS ?_ | refine R.endRound hS ?_ | refine R.retRound hS ?_ | refine R.retC hS ?_ | refine R.endRangeDone hS ?_ | refine R.endRangeRet hS ?_)
      refine hS.inLoop ?_
      refine ih (i + 1) _ _ (by omega) ⟨hlt, inferInstance, inferInstance, inferInstance, inferInstance, inferInstance, inferInstance, inferInstance, ?_⟩
      intro j hj
      by_cases e : j = i
      · subst e; simp [inB, hlt, hF']
      · exact hb j (by omega)
  · have ei : i = l.length := by omega
    refine hS.seq ?_
    refine hS.regionW ?_
    refine W.nextStrEnd (s := l) (i := i) (by omega) ?_
    repeat (first | refine hS.seq ?_ | refine hS.regionW ?_ | refine W.pop ?_ | refine W.yes ?_ | refine W.no ?_ | refine W.box (fun _ _ => ?_) | refine W.alloc (fun _ _ => ?_) | refine W.store ?_ | refine W.bs (fun _ _ => ?_) | refine W.fn hS (fun _ _ => ?_) | refine WL.nil ?_ | refine R.condT hS ?_ | refine R.condF hS ?_ | refine hS.skip ?_ | refine hS.block ?_ | refine hS.inBlock ?_ | refine R.ret hS ?_ | refine R.fin hS ?_ | refine R.begin hS ?_ | refine R.endRound hS ?_ | refine R.retRound hS ?_ | refine R.retC hS ?_ | refine R.endRangeDone hS ?_ | refine R.endRangeRet hS ?_)
    refine hS.exit rfl ?_
    repeat (first | refine hS.seq ?_ | refine hS.regionW ?_ | refine W.pop ?_ | refine W.yes ?_ | refine W.no ?_ | refine W.box (fun _ _ => ?_) | refine W.alloc (fun _ _ => ?_) | refine W.store ?_ | refine W.bs (fun _ _ => ?_) | refine W.fn hS (fun _ _ => ?_) | refine WL.nil ?_ | refine R.condT hS ?_ | refine R.condF hS ?_ | refine hS.skip ?_ | refine hS.block ?_ | refine hS.inBlock ?_ | refine R.ret hS ?_ | refine R.fin hS ?_ | refine R.begin hS ?_ | refine R.endRound hS ?_ | refine R.retRound hS ?_ | refine R.retC hS ?_ | refine R.endRangeDone hS ?_ | refine R.endRangeRet hS ?_)
    have e := findI_none (q := (inB q l)) (n := l.length) (fun j hj => hb j (by omega))
    refine hc _ _ ⟨by simp [resOf, e], Ext0.out⟩

theorem c195 {l : List UInt8} {g : FuncId} {cap : List Value} {q : UInt8 → Bool} {h : LH} [GoC Tryd.prog g] (hn : l.length ≤ 4611686018427387904) (ha : ∀ u ∈ l, u.toNat < 128) (hq : ∀ u ∈ l, ∀ (h' : LH) [Ext0 h h'], FnC Tryd.prog g (.int .i32 u.toNat :: cap) h' (.bool (q u))) :
    FnC Tryd.prog 195 [.string ⟨l.toArray⟩, .func (.func g) #[] cap.toArray] h (.int .i64 (findI (inB q l) l.length)) := by
  refine ⟨Con.intro (m := 2) Tryd.func195 rfl Tryd.ntmps195 rfl (by decide) ?_⟩
  intro main S hS c cs hc
  repeat (first | refine hS.seq ?_ | refine hS.regionW ?_ | refine W.pop ?_ | refine W.yes ?_ | refine W.no ?_ | refine W.box (fun _ _ => ?_) | refine W.alloc (fun _ _ => ?_) | refine W.store ?_ | refine W.bs (fun _ _ => ?_) | refine W.fn hS (fun _ _ => ?_) | refine WL.nil ?_ | refine R.condT hS ?_ | refine R.condF hS ?_ | refine hS.skip ?_ | refine hS.block ?_ | refine hS.inBlock ?_ | refine R.ret hS ?_ | refine R.fin hS ?_ | refine R.begin hS ?_ | refine R.endRound hS ?_ | refine R.retRound hS ?_ | refine R.retC hS ?_ | refine R.endRangeDone hS ?_ | refine R.endRangeRet hS ?_)
  refine W.fn hS (hc := c204 hn ha (fun u hu h2 hx2 => by have : Ext0 h h2 := ⟨(Ext0.out : Ext h _).trans hx2.out⟩; exact hq u hu h2)) (fun _ _ => ?_)
  repeat (first | refine hS.seq ?_ | refine hS.regionW ?_ | refine W.pop ?_ | refine W.yes ?_ | refine W.no ?_ | refine W.box (fun _ _ => ?_) | refine W.alloc (fun _ _ => ?_) | refine W.store ?_ | refine W.bs (fun _ _ => ?_) | refine W.fn hS (fun _ _ => ?_) | refine WL.nil ?_ | refine R.condT hS ?_ | refine R.condF hS ?_ | refine hS.skip ?_ | refine hS.block ?_ | refine hS.inBlock ?_ | refine R.ret hS ?_ | refine R.fin hS ?_ | refine R.begin hS ?_ | refine R.endRound hS ?_ | refine R.retRound hS ?_ | refine R.retC hS ?_ | refine R.endRangeDone hS ?_ | refine R.endRangeRet hS ?_)
  exact hc _ _ ⟨rfl, Ext0.out⟩
theorem c154 {l : List UInt8} {g : FuncId} {cap : List Value} {q : UInt8 → Bool} {h : LH} [GoC Tryd.prog g] (hn : l.length ≤ 4611686018427387904) (ha : ∀ u ∈ l, u.toNat < 128) (hq : ∀ u ∈ l, ∀ (h' : LH) [Ext0 h h'], FnC Tryd.prog g (.int .i32 u.toNat :: cap) h' (.bool (q u))) :
    FnC Tryd.prog 154 [.string ⟨l.toArray⟩, .func (.func g) #[] cap.toArray] h (.bool (l.any q)) := by
  refine ⟨Con.intro (m := 2) Tryd.func154 rfl Tryd.ntmps154 rfl (by decide) ?_⟩
  intro main S hS c cs hc
  repeat (first | refine hS.seq ?_ | refine hS.regionW ?_ | refine W.pop ?_ | refine W.yes ?_ | refine W.no ?_ | refine W.box (fun _ _ => ?_) | refine W.alloc (fun _ _ => ?_) | refine W.store ?_ | refine W.bs (fun _ _ => ?_) | refine W.fn hS (fun _ _ => ?_) | refine WL.nil ?_ | refine R.condT hS ?_ | refine R.condF hS ?_ | refine hS.skip ?_ | refine hS.block ?_ | refine hS.inBlock ?_ | refine R.ret hS ?_ | refine R.fin hS ?_ | refine R.begin hS ?_ | refine R.endRound hS ?_ | refine R.retRound hS ?_ | refine R.retC hS ?_ | refine R.endRangeDone hS ?_ | refine R.endRangeRet hS ?_)
  refine W.fn hS (hc := c195 hn ha (fun u hu h2 hx2 => by have : Ext0 h h2 := ⟨(Ext0.out : Ext h _).trans hx2.out⟩; exact hq u hu h2)) (fun _ _ => ?_)
  repeat (first | refine hS.seq ?_ | refine hS.regionW ?_ | refine W.pop ?_ | refine W.yes ?_ | refine W.no ?_ | refine W.box (fun _ _ => ?_) | refine W.alloc (fun _ _ => ?_) | refine W.store ?_ | refine W.bs (fun _ _ => ?_) | refine W.fn hS (fun _ _ => ?_) | refine WL.nil ?_ | refine R.condT hS ?_ | refine R.condF hS ?_ | refine hS.skip ?_ | refine hS.block ?_ | refine hS.inBlock ?_ | refine R.ret hS ?_ | refine R.fin hS ?_ | refine R.begin hS ?_ | refine R.endRound hS ?_ | refine R.retRound hS ?_ | refine R.retC hS ?_ | refine R.endRangeDone hS ?_ | refine R.endRangeRet hS ?_)
  refine hc _ _ ⟨?_, Ext0.out⟩
  simp only [resOf, Value.bool.injEq]
  exact decide_eq_decide.2 Iff.rfl |>.trans (any_of' (l := l) (p := q))

/-- A name that may be. -/
def nameV (l : List UInt8) : Bool := match l with
  | [] => false
  | u :: _ => decide (l.length ≤ 16) && decide (97 ≤ u.toNat) && decide (u.toNat ≤ 122) && l.all (fun v => nameB v.toNat)
class AscC (l : List UInt8) : Prop where
  out : ∀ u ∈ l, u.toNat < 128
  len : l.length ≤ 4611686018427387904
instance c117 {l : List UInt8} {h : LH} [ha : AscC l] : FnC Tryd.prog 117 [.string ⟨l.toArray⟩] h (.bool (nameV l)) := by
  refine ⟨Con.intro (m := 1) Tryd.func117 rfl Tryd.ntmps117 rfl (by decide) ?_⟩
  intro main S hS c cs hc
  repeat (first | refine hS.seq ?_ | refine hS.regionW ?_ | refine W.pop ?_ | refine W.yes ?_ | refine W.no ?_ | refine W.box (fun _ _ => ?_) | refine W.alloc (fun _ _ => ?_) | refine W.store ?_ | refine W.bs (fun _ _ => ?_) | refine W.fn hS (fun _ _ => ?_) | refine WL.nil ?_ | refine R.condT hS ?_ | refine R.condF hS ?_ | refine hS.skip ?_ | refine hS.block ?_ | refine hS.inBlock ?_ | refine R.ret hS ?_ | refine R.fin hS ?_ | refine R.begin hS ?_ | refine R.endRound hS ?_ | refine R.retRound hS ?_ | refine R.retC hS ?_ | refine R.endRangeDone hS ?_ | refine R.endRangeRet hS ?_)
  cases l with
  | nil =>
    have t1 : IsC (decide (([] : List UInt8) = [])) true := ⟨rfl⟩
    repeat (first | refine hS.seq ?_ | refine hS.regionW ?_ | refine W.pop ?_ | refine W.yes ?_ | refine W.no ?_ | refine W.box (fun _ _ => ?_) | refine W.alloc (fun _ _ => ?_) | refine W.store ?_ | refine W.bs (fun _ _ => ?_) | refine W.fn hS (fun _ _ => ?_) | refine WL.nil ?_ | refine R.condT hS ?_ | refine R.condF hS ?_ | refine hS.skip ?_ | refine hS.block ?_ | refine hS.inBlock ?_ | refine R.ret hS ?_ | refine R.fin hS ?_ | refine R.begin hS ?_ | refine R.endRound hS ?_ | refine R.retRound hS ?_ | refine R.retC hS ?_ | refine R.endRangeDone hS ?_ | refine R.endRangeRet hS ?_)
    exact hc _ _ ⟨rfl, Ext0.out⟩
  | cons u l =>
    have t1 : IsC (decide ((u :: l) = [])) false := ⟨by simp⟩
    have b1 : ByC (u :: l) 0 u := ⟨rfl⟩
    repeat (first | refine hS.seq ?_ | refine hS.regionW ?_ | refine W.pop ?_ | refine W.yes ?_ | refine W.no ?_ | refine W.box (fun _ _ => ?_) | refine W.alloc (fun _ _ => ?_) | refine W.store ?_ | refine W.bs (fun _ _ => ?_) | refine W.fn hS (fun _ _ => ?_) | refine WL.nil ?_ | refine R.condT hS ?_ | refine R.condF hS ?_ | refine hS.skip ?_ | refine hS.block ?_ | refine hS.inBlock ?_ | refine R.ret hS ?_ | refine R.fin hS ?_ | refine R.begin hS ?_ | refine R.endRound hS ?_ | refine R.retRound hS ?_ | refine R.retC hS ?_ | refine R.endRangeDone hS ?_ | refine R.endRangeRet hS ?_)
    refine W.split (fun hT => ?_) (fun hF => ?_)
    · repeat (first | refine hS.seq ?_ | refine hS.regionW ?_ | refine W.pop ?_ | refine W.yes ?_ | refine W.no ?_ | refine W.box (fun _ _ => ?_) | refine W.alloc (fun _ _ => ?_) | refine W.store ?_ | refine W.bs (fun _ _ => ?_) | refine W.fn hS (fun _ _ => ?_) | refine WL.nil ?_ | refine R.condT hS ?_ | refine R.condF hS ?_ | refine hS.skip ?_ | refine hS.block ?_ | refine hS.inBlock ?_ | refine R.ret hS ?_ | refine R.fin hS ?_ | refine R.begin hS ?_ | refine R.endRound hS ?_ | refine R.retRound hS ?_ | refine R.retC hS ?_ | refine R.endRangeDone hS ?_ | refine R.endRangeRet hS ?_)
      refine hc _ _ ⟨?_, Ext0.out⟩
      have : ¬ (u :: l).length ≤ 16 := by have := hT.out; simp at this ⊢; omega
      simp only [resOf, nameV, this, decide_false, Bool.false_and]
    · have k1 : (u :: l).length ≤ 16 := by have := hF.out; simp at this ⊢; omega
      repeat (first | refine hS.seq ?_ | refine hS.regionW ?_ | refine W.pop ?_ | refine W.yes ?_ | refine W.no ?_ | refine W.box (fun _ _ => ?_) | refine W.alloc (fun _ _ => ?_) | refine W.store ?_ | refine W.bs (fun _ _ => ?_) | refine W.fn hS (fun _ _ => ?_) | refine WL.nil ?_ | refine R.condT hS ?_ | refine R.condF hS ?_ | refine hS.skip ?_ | refine hS.block ?_ | refine hS.inBlock ?_ | refine R.ret hS ?_ | refine R.fin hS ?_ | refine R.begin hS ?_ | refine R.endRound hS ?_ | refine R.retRound hS ?_ | refine R.retC hS ?_ | refine R.endRangeDone hS ?_ | refine R.endRangeRet hS ?_)
      refine W.split (fun hT => ?_) (fun hF => ?_)
      · repeat (first | refine hS.seq ?_ | refine hS.regionW ?_ | refine W.pop ?_ | refine W.yes ?_ | refine W.no ?_ | refine W.box (fun _ _ => ?_) | refine W.alloc (fun _ _ => ?_) | refine W.store ?_ | refine W.bs (fun _ _ => ?_) | refine W.fn hS (fun _ _ => ?_) | refine WL.nil ?_ | refine R.condT hS ?_ | refine R.condF hS ?_ | refine hS.skip ?_ | refine hS.block ?_ | refine hS.inBlock ?_ | refine R.ret hS ?_ | refine R.fin hS ?_ | refine R.begin hS ?_ | refine R.endRound hS ?_ | refine R.retRound hS ?_ | refine R.retC hS ?_ | refine R.endRangeDone hS ?_ | refine R.endRangeRet hS ?_)
        refine hc _ _ ⟨?_, Ext0.out⟩
        have : ¬ 97 ≤ u.toNat := by have := hT.out; simp at this ⊢; omega
        simp only [resOf, nameV, this, decide_false, Bool.false_and, Bool.and_false]
      · have k2 : 97 ≤ u.toNat := by have := hF.out; simp at this ⊢; omega
        repeat (first | refine hS.seq ?_ | refine hS.regionW ?_ | refine W.pop ?_ | refine W.yes ?_ | refine W.no ?_ | refine W.box (fun _ _ => ?_) | refine W.alloc (fun _ _ => ?_) | refine W.store ?_ | refine W.bs (fun _ _ => ?_) | refine W.fn hS (fun _ _ => ?_) | refine WL.nil ?_ | refine R.condT hS ?_ | refine R.condF hS ?_ | refine hS.skip ?_ | refine hS.block ?_ | refine hS.inBlock ?_ | refine R.ret hS ?_ | refine R.fin hS ?_ | refine R.begin hS ?_ | refine R.endRound hS ?_ | refine R.retRound hS ?_ | refine R.retC hS ?_ | refine R.endRangeDone hS ?_ | refine R.endRangeRet hS ?_)
        refine R.cond hS (fun hT => ?_) (fun hF => ?_)
        · repeat (first | refine hS.seq ?_ | refine hS.regionW ?_ | refine W.pop ?_ | refine W.yes ?_ | refine W.no ?_ | refine W.box (fun _ _ => ?_) | refine W.alloc (fun _ _ => ?_) | refine W.store ?_ | refine W.bs (fun _ _ => ?_) | refine W.fn hS (fun _ _ => ?_) | refine WL.nil ?_ | refine R.condT hS ?_ | refine R.condF hS ?_ | refine hS.skip ?_ | refine hS.block ?_ | refine hS.inBlock ?_ | refine R.ret hS ?_ | refine R.fin hS ?_ | refine R.begin hS ?_ | refine R.endRound hS ?_ | refine R.retRound hS ?_ | refine R.retC hS ?_ | refine R.endRangeDone hS ?_ | refine R.endRangeRet hS ?_)
          refine hc _ _ ⟨?_, Ext0.out⟩
          have : ¬ u.toNat ≤ 122 := by have := hT.out; simp at this ⊢; omega
          simp only [resOf, nameV, this, decide_false, Bool.false_and, Bool.and_false]
        · have k3 : u.toNat ≤ 122 := by have := hF.out; simp at this ⊢; omega
          repeat (first | refine hS.seq ?_ | refine hS.regionW ?_ | refine W.pop ?_ | refine W.yes ?_ | refine W.no ?_ | refine W.box (fun _ _ => ?_) | refine W.alloc (fun _ _ => ?_) | refine W.store ?_ | refine W.bs (fun _ _ => ?_) | refine W.fn hS (fun _ _ => ?_) | refine WL.nil ?_ | refine R.condT hS ?_ | refine R.condF hS ?_ | refine hS.skip ?_ | refine hS.block ?_ | refine hS.inBlock ?_ | refine R.ret hS ?_ | refine R.fin hS ?_ | refine R.begin hS ?_ | refine R.endRound hS ?_ | refine R.retRound hS ?_ | refine R.retC hS ?_ | refine R.endRangeDone hS ?_ | refine R.endRangeRet hS ?_)
          refine W.fn hS (hc := c154 (g := 178) (cap := []) (q := fun v => !nameB v.toNat) ha.len ha.out (fun v _ h2 hx2 => inferInstance)) (fun _ _ => ?_)
          repeat (first | refine hS.seq ?_ | refine hS.regionW ?_ | refine W.pop ?_ | refine W.yes ?_ | refine W.no ?_ | refine W.box (fun _ _ => ?_) | refine W.alloc (fun _ _ => ?_) | refine W.store ?_ | refine W.bs (fun _ _ => ?_) | refine W.fn hS (fun _ _ => ?_) | refine WL.nil ?_ | refine R.condT hS ?_ | refine R.condF hS ?_ | refine hS.skip ?_ | refine hS.block ?_ | refine hS.inBlock ?_ | refine R.ret hS ?_ | refine R.fin hS ?_ | refine R.begin hS ?_ | refine R.endRound hS ?_ | refine R.retRound hS ?_ | refine R.retC hS ?_ | refine R.endRangeDone hS ?_ | refine R.endRangeRet hS ?_)
          refine hc _ _ ⟨?_, Ext0.out⟩
          simp only [resOf, nameV, k1, k2, k3, decide_true, Bool.true_and, Value.bool.injEq]
          rw [Bool.eq_iff_iff]
          simp only [Bool.not_eq_true', List.any_eq_false, List.all_eq_true]
          simp

instance c92 {n low high : Int} {h : LH} : FnC Tryd.prog 92 [.int .i64 n, .int .i64 low, .int .i64 high] h (.bool (decide (low ≤ n ∧ n ≤ high))) := by
  refine ⟨Con.intro (m := 3) Tryd.func92 rfl Tryd.ntmps92 rfl (by decide) ?_⟩
  intro main S hS c cs hc
  repeat' (first | (first | refine hS.seq ?_ | refine hS.regionW ?_ | refine W.pop ?_ | refine W.yes ?_ | refine W.no ?_ | refine W.box (fun _ _ => ?_) | refine W.alloc (fun _ _ => ?_) | refine W.store ?_ | refine W.bs (fun _ _ => ?_) | refine W.fn hS (fun _ _ => ?_) | refine WL.nil ?_ | refine R.condT hS ?_ | refine R.condF hS ?_ | refine hS.skip ?_ | refine hS.block ?_ | refine hS.inBlock ?_ | refine R.ret hS ?_ | refine R.fin hS ?_ | refine R.begin hS ?_ | refine R.endRound hS ?_ | refine R.retRound hS ?_ | refine R.retC hS ?_ | refine R.endRangeDone hS ?_ | refine R.endRangeRet hS ?_) | refine W.split (fun _ => ?_) (fun _ => ?_) | refine R.cond hS (fun _ => ?_) (fun _ => ?_))
  all_goals (refine hc _ _ ?_; refine ⟨?_, Ext0.out⟩; clear hc; (try simp only [isC_iff] at *); simp_all [resOf, ] <;> omega)
instance c85 {i : Int} {h : LH} : FnC Tryd.prog 85 [.int .i64 i] h (.agg (List.toArray [.int .i64 i, .bool true, .bool false])) := by
  refine ⟨Con.intro (m := 1) Tryd.func85 rfl Tryd.ntmps85 rfl (by decide) ?_⟩
  intro main S hS c cs hc
  repeat (first | refine hS.seq ?_ | refine hS.regionW ?_ | refine W.pop ?_ | refine W.yes ?_ | refine W.no ?_ | refine W.box (fun _ _ => ?_) | refine W.alloc (fun _ _ => ?_) | refine W.store ?_ | refine W.bs (fun _ _ => ?_) | refine W.fn hS (fun _ _ => ?_) | refine WL.nil ?_ | refine R.condT hS ?_ | refine R.condF hS ?_ | refine hS.skip ?_ | refine hS.block ?_ | refine hS.inBlock ?_ | refine R.ret hS ?_ | refine R.fin hS ?_ | refine R.begin hS ?_ | refine R.endRound hS ?_ | refine R.retRound hS ?_ | refine R.retC hS ?_ | refine R.endRangeDone hS ?_ | refine R.endRangeRet hS ?_)
  refine hc _ _ ⟨?_, Ext0.out⟩
  rfl
instance c86 {i : Int} {h : LH} : FnC Tryd.prog 86 [.int .i64 i] h (.agg (List.toArray [.int .i64 i, .bool false, .bool true])) := by
  refine ⟨Con.intro (m := 1) Tryd.func86 rfl Tryd.ntmps86 rfl (by decide) ?_⟩
  intro main S hS c cs hc
  repeat (first | refine hS.seq ?_ | refine hS.regionW ?_ | refine W.pop ?_ | refine W.yes ?_ | refine W.no ?_ | refine W.box (fun _ _ => ?_) | refine W.alloc (fun _ _ => ?_) | refine W.store ?_ | refine W.bs (fun _ _ => ?_) | refine W.fn hS (fun _ _ => ?_) | refine WL.nil ?_ | refine R.condT hS ?_ | refine R.condF hS ?_ | refine hS.skip ?_ | refine hS.block ?_ | refine hS.inBlock ?_ | refine R.ret hS ?_ | refine R.fin hS ?_ | refine R.begin hS ?_ | refine R.endRound hS ?_ | refine R.retRound hS ?_ | refine R.retC hS ?_ | refine R.endRangeDone hS ?_ | refine R.endRangeRet hS ?_)
  refine hc _ _ ⟨?_, Ext0.out⟩
  rfl
instance c181 {a d t f : Int} {b c e g k : Bool} {h : LH} : FnC Tryd.prog 181 [.agg (List.toArray [.int .i64 a, .bool b, .bool c, .int .i64 d, .bool e, .bool g, .int .i64 t, .bool k, .int .i64 f])] h
    (.agg (List.toArray [.int .i64 (if k then a else d), .bool (if k then b else e), .bool (if k then c else g)])) := by
  refine ⟨Con.intro (m := 1) Tryd.func181 rfl Tryd.ntmps181 rfl (by decide) ?_⟩
  intro main S hS c cs hc
  repeat (first | refine hS.seq ?_ | refine hS.regionW ?_ | refine W.pop ?_ | refine W.yes ?_ | refine W.no ?_ | refine W.box (fun _ _ => ?_) | refine W.alloc (fun _ _ => ?_) | refine W.store ?_ | refine W.bs (fun _ _ => ?_) | refine W.fn hS (fun _ _ => ?_) | refine WL.nil ?_ | refine R.condT hS ?_ | refine R.condF hS ?_ | refine hS.skip ?_ | refine hS.block ?_ | refine hS.inBlock ?_ | refine R.ret hS ?_ | refine R.fin hS ?_ | refine R.begin hS ?_ | refine R.endRound hS ?_ | refine R.retRound hS ?_ | refine R.retC hS ?_ | refine R.endRangeDone hS ?_ | refine R.endRangeRet hS ?_)
  refine R.cond hS (fun hT => ?_) (fun hF => ?_)
  · have e := hT.out
    subst e
    repeat (first | refine hS.seq ?_ | refine hS.regionW ?_ | refine W.pop ?_ | refine W.yes ?_ | refine W.no ?_ | refine W.box (fun _ _ => ?_) | refine W.alloc (fun _ _ => ?_) | refine W.store ?_ | refine W.bs (fun _ _ => ?_) | refine W.fn hS (fun _ _ => ?_) | refine WL.nil ?_ | refine R.condT hS ?_ | refine R.condF hS ?_ | refine hS.skip ?_ | refine hS.block ?_ | refine hS.inBlock ?_ | refine R.ret hS ?_ | refine R.fin hS ?_ | refine R.begin hS ?_ | refine R.endRound hS ?_ | refine R.retRound hS ?_ | refine R.retC hS ?_ | refine R.endRangeDone hS ?_ | refine R.endRangeRet hS ?_)
    refine hc _ _ ⟨?_, Ext0.out⟩
    rfl
  · have e := hF.out
    subst e
    repeat (first | refine hS.seq ?_ | refine hS.regionW ?_ | refine W.pop ?_ | refine W.yes ?_ | refine W.no ?_ | refine W.box (fun _ _ => ?_) | refine W.alloc (fun _ _ => ?_) | refine W.store ?_ | refine W.bs (fun _ _ => ?_) | refine W.fn hS (fun _ _ => ?_) | refine WL.nil ?_ | refine R.condT hS ?_ | refine R.condF hS ?_ | refine hS.skip ?_ | refine hS.block ?_ | refine hS.inBlock ?_ | refine R.ret hS ?_ | refine R.fin hS ?_ | refine R.begin hS ?_ | refine R.endRound hS ?_ | refine R.retRound hS ?_ | refine R.retC hS ?_ | refine R.endRangeDone hS ?_ | refine R.endRangeRet hS ?_)
    refine hc _ _ ⟨?_, Ext0.out⟩
    rfl
instance c183 {a d t f : Int} {b c e g k : Bool} {h : LH} : FnC Tryd.prog 183 [.agg (List.toArray [.int .i64 a, .bool b, .bool c, .int .i64 d, .bool e, .bool g, .int .i64 t, .bool k, .int .i64 f])] h
    (.agg (List.toArray [.int .i64 (if k then d else a), .bool (if k then e else b), .bool (if k then g else c)])) := by
  refine ⟨Con.intro (m := 1) Tryd.func183 rfl Tryd.ntmps183 rfl (by decide) ?_⟩
  intro main S hS c cs hc
  repeat (first | refine hS.seq ?_ | refine hS.regionW ?_ | refine W.pop ?_ | refine W.yes ?_ | refine W.no ?_ | refine W.box (fun _ _ => ?_) | refine W.alloc (fun _ _ => ?_) | refine W.store ?_ | refine W.bs (fun _ _ => ?_) | refine W.fn hS (fun _ _ => ?_) | refine WL.nil ?_ | refine R.condT hS ?_ | refine R.condF hS ?_ | refine hS.skip ?_ | refine hS.block ?_ | refine hS.inBlock ?_ | refine R.ret hS ?_ | refine R.fin hS ?_ | refine R.begin hS ?_ | refine R.endRound hS ?_ | refine R.retRound hS ?_ | refine R.retC hS ?_ | refine R.endRangeDone hS ?_ | refine R.endRangeRet hS ?_)
  refine R.cond hS (fun hT => ?_) (fun hF => ?_)
  · have e := hT.out
    subst e
    repeat (first | refine hS.seq ?_ | refine hS.regionW ?_ | refine W.pop ?_ | refine W.yes ?_ | refine W.no ?_ | refine W.box (fun _ _ => ?_) | refine W.alloc (fun _ _ => ?_) | refine W.store ?_ | refine W.bs (fun _ _ => ?_) | refine W.fn hS (fun _ _ => ?_) | refine WL.nil ?_ | refine R.condT hS ?_ | refine R.condF hS ?_ | refine hS.skip ?_ | refine hS.block ?_ | refine hS.inBlock ?_ | refine R.ret hS ?_ | refine R.fin hS ?_ | refine R.begin hS ?_ | refine R.endRound hS ?_ | refine R.retRound hS ?_ | refine R.retC hS ?_ | refine R.endRangeDone hS ?_ | refine R.endRangeRet hS ?_)
    refine hc _ _ ⟨?_, Ext0.out⟩
    rfl
  · have e := hF.out
    subst e
    repeat (first | refine hS.seq ?_ | refine hS.regionW ?_ | refine W.pop ?_ | refine W.yes ?_ | refine W.no ?_ | refine W.box (fun _ _ => ?_) | refine W.alloc (fun _ _ => ?_) | refine W.store ?_ | refine W.bs (fun _ _ => ?_) | refine W.fn hS (fun _ _ => ?_) | refine WL.nil ?_ | refine R.condT hS ?_ | refine R.condF hS ?_ | refine hS.skip ?_ | refine hS.block ?_ | refine hS.inBlock ?_ | refine R.ret hS ?_ | refine R.fin hS ?_ | refine R.begin hS ?_ | refine R.endRound hS ?_ | refine R.retRound hS ?_ | refine R.retC hS ?_ | refine R.endRangeDone hS ?_ | refine R.endRangeRet hS ?_)
    refine hc _ _ ⟨?_, Ext0.out⟩
    rfl
end Go.Proofs.YtankmjkogcbnfaaDoor
/-
  Keys of maps; fix.checkThings, checkTies and Check, of nets that may be.
-/
namespace Go.Proofs.YtankmjkogcbnfaaDoor
open Go Go.SL Go.Conc
attribute [local irreducible] putE ofL Look Nth Ev HG Own SubL Wr Sgl EvL LH.upd WL OpS Any Con PopW Pop
/-! ### keys and values of maps -/
abbrev strK (l : List UInt8) : Value := .string ⟨l.toArray⟩
abbrev intK (z : Int) : Value := .int .i64 z
abbrev boolV (b : Bool) : Value := .bool b
structure Spot where
  t : Int
  a : Bool
  b : Bool
  deriving DecidableEq
structure Pipe where
  frm : Spot
  to : Spot
  tie : Int
  deriving DecidableEq
structure Step where
  p : Pipe
  back : Bool
  free : Int
  deriving DecidableEq
abbrev spotK (s : Spot) : Value := .agg (List.toArray [.int .i64 s.t, .bool s.a, .bool s.b])
abbrev pipeK (p : Pipe) : Value := .agg (List.toArray [.int .i64 p.frm.t, .bool p.frm.a, .bool p.frm.b, .int .i64 p.to.t, .bool p.to.a, .bool p.to.b, .int .i64 p.tie])
abbrev stepV (s : Step) : Value := .agg (List.toArray [.int .i64 s.p.frm.t, .bool s.p.frm.a, .bool s.p.frm.b, .int .i64 s.p.to.t, .bool s.p.to.a, .bool s.p.to.b, .int .i64 s.p.tie, .bool s.back, .int .i64 s.free])
instance kvStr {l : List UInt8} : KvC strK (.string ⟨l.toArray⟩) l := ⟨rfl⟩
instance kvInt {z : Int} : KvC intK (.int .i64 z) z := ⟨rfl⟩
instance kvBool {b : Bool} : KvC boolV (.bool b) b := ⟨rfl⟩
instance kvSpot {t : Int} {a b : Bool} : KvC spotK (.agg (List.toArray [.int .i64 t, .bool a, .bool b])) ⟨t, a, b⟩ := ⟨rfl⟩
instance kvPipe {t u k : Int} {a b c d : Bool} : KvC pipeK (.agg (List.toArray [.int .i64 t, .bool a, .bool b, .int .i64 u, .bool c, .bool d, .int .i64 k])) ⟨⟨t, a, b⟩, ⟨u, c, d⟩, k⟩ := ⟨rfl⟩
instance kvStep {t u k f : Int} {a b c d e : Bool} : KvC stepV (.agg (List.toArray [.int .i64 t, .bool a, .bool b, .int .i64 u, .bool c, .bool d, .int .i64 k, .bool e, .int .i64 f])) ⟨⟨⟨t, a, b⟩, ⟨u, c, d⟩, k⟩, e, f⟩ := ⟨rfl⟩
instance kcStr : KeyC Tryd.prog 9 strK := .ofNow ul9.out (fun a b => by
    show some ((⟨a.toArray⟩ : ByteArray) == ⟨b.toArray⟩) = _
    congr 1
    rw [beq_toListBytes, ByteArray.toList_mk, ByteArray.toList_mk, Bool.eq_iff_iff]
    simp) (fun N hN b k h K hk => ck_all (x := strK k) 1 (by omega) b h K hk) (fun N hN k => by
    rw [bits_str, beq_toListBytes]; simp)
instance ul3' : UlC Tryd.prog 3 (.int .i64) := ⟨by kernel_rfl⟩
instance ul4' : UlC Tryd.prog 4 .bool := ⟨by kernel_rfl⟩
instance kcInt : KeyC Tryd.prog 3 intK := .ofNow ul3'.out (fun a b => by
    show (if IntKind.i64 = IntKind.i64 then some (a == b) else none) = _
    rw [if_pos rfl]
    congr 1) (fun N hN b k h K hk => ck_all (x := intK k) 1 (by omega) b h K hk) (fun N hN k => bits_int _ _ _)
instance fls206 : FlsC Tryd.prog 206 [(3, 0), (204, 1)] := ⟨by kernel_rfl⟩
instance fls208 : FlsC Tryd.prog 208 [(206, 0), (206, 3), (3, 6)] := ⟨by kernel_rfl⟩
instance eg206 : EgC Tryd.prog 206 := ⟨by kernel_rfl⟩
theorem eqSpot (a b : Spot) : (a.t == b.t && ((a.a == b.a && a.b == b.b) && true)) = decide (a = b) := by
  rw [Bool.eq_iff_iff]; cases a; cases b; simp
theorem eqcSpot' (x y : Spot) : EqC Tryd.prog 3 206 (spotK x) (spotK y) (decide (x = y)) := by
  rw [← eqSpot]
  infer_instance
instance eqcSpot {t u : Int} {a b c d : Bool} : EqC Tryd.prog 3 206 (.agg (List.toArray [.int .i64 t, .bool a, .bool b])) (.agg (List.toArray [.int .i64 u, .bool c, .bool d])) (decide ((⟨t, a, b⟩ : Spot) = ⟨u, c, d⟩)) := eqcSpot' ⟨t, a, b⟩ ⟨u, c, d⟩
theorem eqPipe (a b : Pipe) : (decide ((⟨a.frm.t, a.frm.a, a.frm.b⟩ : Spot) = ⟨b.frm.t, b.frm.a, b.frm.b⟩) && (decide ((⟨a.to.t, a.to.a, a.to.b⟩ : Spot) = ⟨b.to.t, b.to.a, b.to.b⟩) && (a.tie == b.tie && true))) = decide (a = b) := by
  obtain ⟨⟨_, _, _⟩, ⟨_, _, _⟩, _⟩ := a
  obtain ⟨⟨_, _, _⟩, ⟨_, _, _⟩, _⟩ := b
  rw [Bool.eq_iff_iff]; simp
instance kcSpot : KeyC Tryd.prog 206 spotK := by
  cases hu : Tryd.prog.underlying 206 with
  | none => exact absurd hu (by have := fls206.out; intro e; unfold flB at this; rw [e] at this; cases this)
  | some d =>
  refine .ofAsk hu (fun a b => by cases d <;> rfl) (fun N hN a b h K hk => ?_) (fun N hN b k h K hk => ?_) (fun N hN k => ?_)
  · exact eq_all (x := spotK a) (y := spotK b) 3 (by omega) h K hk
  · exact ck_all (x := spotK k) 4 (by omega) b h K hk
  · refine bits_agg (by omega) _ (fun v hv n => ?_)
    simp at hv
    rcases hv with rfl | rfl | rfl <;> first | exact bits_int _ _ _ | exact bits_bool _ _
instance kcPipe : KeyC Tryd.prog 208 pipeK := by
  cases hu : Tryd.prog.underlying 208 with
  | none => exact absurd hu (by have := fls208.out; intro e; unfold flB at this; rw [e] at this; cases this)
  | some d =>
  refine .ofAsk hu (fun a b => by cases d <;> rfl) (fun N hN a b h K hk => ?_) (fun N hN b k h K hk => ?_) (fun N hN k => ?_)
  · exact eq_all (x := pipeK a) (y := pipeK b) 4 (by omega) h K (by rw [eqPipe]; exact hk)
  · exact ck_all (x := pipeK k) 4 (by omega) b h K hk
  · refine bits_agg (by omega) _ (fun v hv n => ?_)
    simp at hv
    rcases hv with rfl | rfl | rfl | rfl | rfl | rfl | rfl <;> first | exact bits_int _ _ _ | exact bits_bool _ _
theorem pipeK_inj {a b : Pipe} (h : pipeK a = pipeK b) : a = b := by
  obtain ⟨⟨_, _, _⟩, ⟨_, _, _⟩, _⟩ := a
  obtain ⟨⟨_, _, _⟩, ⟨_, _, _⟩, _⟩ := b
  simp at h
  obtain ⟨rfl, rfl, rfl, rfl, rfl, rfl, rfl⟩ := h
  rfl
/-! ### looks into maps -/
section
variable {n : Nat} {E : Env} {h : LH} {ty : TypeId} {x ix : Operand} {r : Nat} {es : Array MapEntry} {c : Nat}
instance pLk233 {l : List UInt8} {f : List UInt8 → Option Bool} [hx : EvC n E x (.map (some r))] [hi : EvC n E ix (.string ⟨l.toArray⟩)] [hg : HGC h r (.map es c)] [hm : MiC strK boolV es c f] : PopC Tryd.prog n E h (.lookup 233 x ix false) ty (.bool ((f l).getD false)) :=
  ⟨Pop.lookup (k := l) (z := false) (co := false) ul233.out (by kernel_rfl) hx.out hi.out hg.out hm.out⟩
instance pLk259 {z : Int} {f : Int → Option Bool} [hx : EvC n E x (.map (some r))] [hi : EvC n E ix (.int .i64 z)] [hg : HGC h r (.map es c)] [hm : MiC intK boolV es c f] : PopC Tryd.prog n E h (.lookup 259 x ix false) ty (.bool ((f z).getD false)) :=
  ⟨Pop.lookup (k := z) (z := false) (co := false) ul259.out (by kernel_rfl) hx.out hi.out hg.out hm.out⟩
instance pLk328 {v : Value} {s : Spot} {f : Spot → Option Bool} [hx : EvC n E x (.map (some r))] [hi : EvC n E ix v] [hk : KvC spotK v s] [hg : HGC h r (.map es c)] [hm : MiC spotK boolV es c f] : PopC Tryd.prog n E h (.lookup 328 x ix false) ty (.bool ((f s).getD false)) :=
  ⟨Pop.lookup (k := s) (z := false) (co := false) ul328.out (by kernel_rfl) hx.out (by have := hi.out; rw [← hk.out] at this; exact this) hg.out hm.out⟩
instance pLk209 {v : Value} {p : Pipe} {f : Pipe → Option Int} [hx : EvC n E x (.map (some r))] [hi : EvC n E ix v] [hk : KvC pipeK v p] [hg : HGC h r (.map es c)] [hm : MiC pipeK intK es c f] : PopC Tryd.prog n E h (.lookup 209 x ix false) ty (.int .i64 ((f p).getD 0)) :=
  ⟨Pop.lookup (k := p) (z := (0 : Int)) (co := false) ul209.out (by kernel_rfl) hx.out (by have := hi.out; rw [← hk.out] at this; exact this) hg.out hm.out⟩
/-- The step where there is none. -/
def step0 : Step := ⟨⟨⟨0, false, false⟩, ⟨0, false, false⟩, 0⟩, false, 0⟩
instance pLk200 {v : Value} {s : Spot} {f : Spot → Option Step} [hx : EvC n E x (.map (some r))] [hi : EvC n E ix v] [hk : KvC spotK v s] [hg : HGC h r (.map es c)] [hm : MiC spotK stepV es c f] : PopC Tryd.prog n E h (.lookup 200 x ix false) ty (stepV ((f s).getD step0)) :=
  ⟨Pop.lookup (k := s) (z := step0) (co := false) ul200.out (by kernel_rfl) hx.out (by have := hi.out; rw [← hk.out] at this; exact this) hg.out hm.out⟩
instance pLk200o {v : Value} {s : Spot} {f : Spot → Option Step} [hx : EvC n E x (.map (some r))] [hi : EvC n E ix v] [hk : KvC spotK v s] [hg : HGC h r (.map es c)] [hm : MiC spotK stepV es c f] : PopC Tryd.prog n E h (.lookup 200 x ix true) ty (.tuple (List.toArray [stepV ((f s).getD step0), .bool (f s).isSome])) :=
  ⟨Pop.lookup (k := s) (z := step0) (co := true) ul200.out (by kernel_rfl) hx.out (by have := hi.out; rw [← hk.out] at this; exact this) hg.out hm.out⟩
end
end Go.Proofs.YtankmjkogcbnfaaDoor
/-
  fix.checkThings, checkTies and Check, of nets that may be.
-/
namespace Go.Proofs.YtankmjkogcbnfaaDoor
open Go Go.SL Go.Conc
attribute [local irreducible] putE ofL Look Nth Ev HG Own SubL Wr Sgl EvL LH.upd WL OpS Any Con PopW Pop
structure Thing where
  name : List UInt8
  weight : Int
  bears : Int
  ground : Bool
structure Tie where
  frm : Int
  to : Int
  most : Int
def Thing.c (x : Thing) : List Value := [.string ⟨x.name.toArray⟩, .int .i64 x.weight, .int .i64 x.bears, .bool x.ground]
def Tie.c (x : Tie) : List Value := [.int .i64 x.frm, .int .i64 x.to, .int .i64 x.most]
instance elTh {l : List Thing} {i : Nat} {x : Thing} [q : IxC l i x] : ElC (l.map Thing.c) i [.string ⟨x.name.toArray⟩, .int .i64 x.weight, .int .i64 x.bears, .bool x.ground] := ⟨by simp [q.out, Thing.c]⟩
instance elTi {l : List Tie} {i : Nat} {x : Tie} [q : IxC l i x] : ElC (l.map Tie.c) i [.int .i64 x.frm, .int .i64 x.to, .int .i64 x.most] := ⟨by simp [q.out, Tie.c]⟩
/-- Things that may be. -/
structure GoodTh (l : List Thing) : Prop where
  len : l.length ≤ 24
  name : ∀ x ∈ l, nameV x.name = true
  asc : ∀ x ∈ l, AscC x.name
  nodup : (l.map (·.name)).Nodup
  weight : ∀ x ∈ l, 0 ≤ x.weight ∧ x.weight ≤ 100000
  bears : ∀ x ∈ l, 0 ≤ x.bears ∧ x.bears ≤ 1000000

theorem c79 {l : List Thing} {v : Value} {h : LH} [hs : SlC h 4 v (l.map Thing.c)] (g : GoodTh l) : FnC Tryd.prog 79 [v] h (.int .i64 0) := by
  have hs' : SlAt h 4 v (l.map Thing.c) := ⟨hs.out⟩
  have hlen := g.len
  refine ⟨Con.intro (m := 1) Tryd.func79 rfl Tryd.ntmps79 rfl (by decide) ?_⟩
  intro main S hS c cs hc
  have t0 : IsC (decide ((l.length : Int) > 24)) false := ⟨by simp; omega⟩
  repeat (first | refine hS.seq ?_ | refine hS.regionW ?_ | refine W.pop ?_ | refine W.yes ?_ | refine W.no ?_ | refine W.box (fun _ _ => ?_) | refine W.alloc (fun _ _ => ?_) | refine W.store ?_ | refine W.bs (fun _ _ => ?_) | refine W.fn hS (fun _ _ => ?_) | refine WL.nil ?_ | refine R.condT hS ?_ | refine R.condF hS ?_ | refine hS.skip ?_ | refine hS.block ?_ | refine hS.inBlock ?_ | refine R.ret hS ?_ | refine R.fin hS ?_ | refine R.begin hS ?_ | refine R.endRound hS ?_ | refine R.retRound hS ?_ | refine R.retC hS ?_ | refine R.endRangeDone hS ?_ | refine R.endRangeRet hS ?_)
  refine W.makeMap (fun r hr => ?_)
  repeat (first | refine hS.seq ?_ | refine hS.regionW ?_ | refine W.pop ?_ | refine W.yes ?_ | refine W.no ?_ | refine W.box (fun _ _ => ?_) | refine W.alloc (fun _ _ => ?_) | refine W.store ?_ | refine W.bs (fun _ _ => ?_) | refine W.fn hS (fun _ _ => ?_) | refine WL.nil ?_ | refine R.condT hS ?_ | refine R.condF hS ?_ | refine hS.skip ?_ | refine hS.block ?_ | refine hS.inBlock ?_ | refine R.ret hS ?_ | refine R.fin hS ?_ | refine R.begin hS ?_ | refine R.endRound hS ?_ | refine R.retRound hS ?_ | refine R.retC hS ?_ | refine R.endRangeDone hS ?_ | refine R.endRangeRet hS ?_)
  refine hS.loop ?_
  refine loop_ind (fun (i : Nat) => l.length - i) (fun i E h' => i ≤ l.length ∧ LookC E 0 v ∧ LookC E 3 (.map (some r)) ∧ LookC E 10 v ∧ LookC E 11 (.int .i64 l.length) ∧ LookC E 12 (.int .i64 (i : Nat)) ∧ Ext0 h h' ∧ OwnC h' r ∧ Fresh0 h r ∧ ∃ es c f, HGC h' r (.map es c) ∧ MiC strK boolV es c f ∧ ∀ k, f k = if k ∈ (l.take i).map (·.name) then some true else none) ?_ 0 _ _ ⟨Nat.zero_le _, inferInstance, inferInstance, inferInstance, inferInstance, inferInstance, inferInstance, inferInstance, inferInstance, _, _, _, inferInstance, inferInstance, by simp⟩
  rintro i E h' ⟨hi, l0, l3, l10, l11, l12, hx, ho, hf, es, c, f, hg, hm, hfk⟩ ih
  by_cases hlt : i < l.length
  · have ix : IxC l i l[i] := ⟨by simp [hlt]⟩
    have hmem : l[i] ∈ l := List.getElem_mem hlt
    have t1 : IsC (decide ((i : Int) < (l.length : Int))) true := ⟨by simp [hlt]⟩
    have nw : NoW ((i : Int) + 1) := NoW.of (by omega) (by omega)
    have as1 := g.asc _ hmem
    have t2 : IsC (!nameV l[i].name) false := ⟨by rw [g.name _ hmem]; rfl⟩
    have hw := g.weight _ hmem
    have hb := g.bears _ hmem
    have t3 : IsC (!decide (0 ≤ l[i].weight ∧ l[i].weight ≤ 100000)) false := ⟨by simp; omega⟩
    have t4 : IsC (!decide (0 ≤ l[i].bears ∧ l[i].bears ≤ 1000000)) false := ⟨by simp; omega⟩
    have hnot : l[i].name ∉ (l.take i).map (·.name) := by
      intro hm
      have hnd := g.nodup
      rw [← List.take_append_drop i l, List.map_append, List.nodup_append] at hnd
      exact hnd.2.2 _ hm l[i].name (List.mem_map.2 ⟨l[i], by rw [List.drop_eq_getElem_cons hlt]; exact List.mem_cons_self, rfl⟩) rfl
    have t5 : IsC ((f l[i].name).getD false) false := ⟨by rw [hfk, if_neg hnot]; rfl⟩
    repeat (first | refine hS.seq ?_ | refine hS.regionW ?_ | refine W.pop ?_ | refine W.yes ?_ | refine W.no ?_ | refine W.box (fun _ _ => ?_) | refine W.alloc (fun _ _ => ?_) | refine W.store ?_ | refine W.bs (fun _ _ => ?_) | refine W.fn hS (fun _ _ => ?_) | refine WL.nil ?_ | refine R.condT hS ?_ | refine R.condF hS ?_ | refine hS.skip ?_ | refine hS.block ?_ | refine hS.inBlock ?_ | refine R.ret hS ?_ | refine R.fin hS ?_ | refine R.begin hS ?_ | refine R.endRound hS ?_ | refine R.retRound hS ?_ | refine R.retC hS ?_ | refine R.endRangeDone hS ?_ | refine R.endRangeRet hS ?_)
    refine W.mapUp strK boolV (fun es1 c1 m1 => ?_)
    repeat (first | refine hS.seq ?_ | refine hS.regionW ?_ | refine W.pop ?_ | refine W.yes ?_ | refine W.no ?_ | refine W.box (fun _ _ => ?_) | refine W.alloc (fun _ _ => ?_) | refine W.store ?_ | refine W.bs (fun _ _ => ?_) | refine W.fn hS (fun _ _ => ?_) | refine WL.nil ?_ | refine R.condT hS ?_ | refine R.condF hS ?_ | refine hS.skip ?_ | refine hS.block ?_ | refine hS.inBlock ?_ | refine R.ret hS ?_ | refine R.fin hS ?_ | refine R.begin hS ?_ | refine R.endRound hS ?_ | refine R.retRound hS ?_ | refine R.retC hS ?_ | refine R.endRangeDone hS ?_ | refine R.endRangeRet hS ?_)
    refine hS.inLoop ?_
    refine ih (i + 1) _ _ (by omega) ⟨hlt, inferInstance, inferInstance, inferInstance, inferInstance, by have e : ((i + 1 : Nat) : Int) = (i : Int) + 1 := (by omega); rw [e]; infer_instance, inferInstance, inferInstance, inferInstance, _, _, _, inferInstance, m1, ?_⟩
    intro k
    simp only [updF, hfk]
    rw [List.take_succ_eq_append_getElem hlt, List.map_append]
    simp only [List.map_cons, List.map_nil, List.mem_append, List.mem_singleton]
    by_cases e : k = l[i].name
    · simp [e]
    · simp [e]
  · have t1 : IsC (decide ((i : Int) < (l.length : Int))) false := ⟨by simp; omega⟩
    repeat (first | refine hS.seq ?_ | refine hS.regionW ?_ | refine W.pop ?_ | refine W.yes ?_ | refine W.no ?_ | refine W.box (fun _ _ => ?_) | refine W.alloc (fun _ _ => ?_) | refine W.store ?_ | refine W.bs (fun _ _ => ?_) | refine W.fn hS (fun _ _ => ?_) | refine WL.nil ?_ | refine R.condT hS ?_ | refine R.condF hS ?_ | refine hS.skip ?_ | refine hS.block ?_ | refine hS.inBlock ?_ | refine R.ret hS ?_ | refine R.fin hS ?_ | refine R.begin hS ?_ | refine R.endRound hS ?_ | refine R.retRound hS ?_ | refine R.retC hS ?_ | refine R.endRangeDone hS ?_ | refine R.endRangeRet hS ?_)
    refine hS.exit rfl ?_
    repeat (first | refine hS.seq ?_ | refine hS.regionW ?_ | refine W.pop ?_ | refine W.yes ?_ | refine W.no ?_ | refine W.box (fun _ _ => ?_) | refine W.alloc (fun _ _ => ?_) | refine W.store ?_ | refine W.bs (fun _ _ => ?_) | refine W.fn hS (fun _ _ => ?_) | refine WL.nil ?_ | refine R.condT hS ?_ | refine R.condF hS ?_ | refine hS.skip ?_ | refine hS.block ?_ | refine hS.inBlock ?_ | refine R.ret hS ?_ | refine R.fin hS ?_ | refine R.begin hS ?_ | refine R.endRound hS ?_ | refine R.retRound hS ?_ | refine R.retC hS ?_ | refine R.endRangeDone hS ?_ | refine R.endRangeRet hS ?_)
    refine hc _ _ ⟨rfl, Ext0.out⟩
/-- What is sought in a list. -/
def anyI {α : Type} (q : α → Bool) (l : List α) (i : Nat) : Bool := match l[i]? with | some x => q x | none => false
theorem any_of2 {α : Type} {l : List α} {p : α → Bool} : decide (findI (anyI p l) l.length ≥ 0) = l.any p := by
  rw [Bool.eq_iff_iff, decide_eq_true_iff, ge_iff_le, findI_ge, List.any_eq_true]
  constructor
  · rintro ⟨i, hi, hq⟩
    simp only [anyI, List.getElem?_eq_getElem hi] at hq
    exact ⟨l[i], List.getElem_mem hi, hq⟩
  · rintro ⟨x, hx, hp⟩
    obtain ⟨i, hi, rfl⟩ := List.mem_iff_getElem.1 hx
    exact ⟨i, hi, by simp only [anyI, List.getElem?_eq_getElem hi]; exact hp⟩
theorem c118 {α : Type} {toC : α → List Value} {l : List α} {p : α → Bool} {h : LH} {v : Value} {g : FuncId} {cap : List Value} [GoC Tryd.prog g] [hs : SlC h 3 v (l.map toC)] (hn : l.length ≤ 4611686018427387904) (hq : ∀ x ∈ l, ∀ (h' : LH) [Ext0 h h'], FnC Tryd.prog g (.agg (toC x).toArray :: cap) h' (.bool (p x))) : FnC Tryd.prog 118 [v, .func (.func g) #[] cap.toArray] h (.bool (l.any p)) := by
  have hs' : SlAt h 3 v (l.map toC) := ⟨hs.out⟩
  have := c179 (h := h) (v := v) (g := g) (cap := cap) (xs := l.map toC) (q := anyI p l) (by simpa using hn) (fun i cs h' hi hx => by
    obtain ⟨x, hx1, rfl⟩ : ∃ x, l[i]? = some x ∧ toC x = cs := by have := hi.out; simpa using this
    simp only [anyI, hx1]
    exact hq x (List.mem_of_getElem? hx1) h')
  rw [List.length_map] at this
  refine ⟨Con.intro (m := 2) Tryd.func118 rfl Tryd.ntmps118 rfl (by decide) ?_⟩
  intro main S hS c cs hc
  repeat' (first | (first | refine hS.seq ?_ | refine hS.regionW ?_ | refine W.pop ?_ | refine W.yes ?_ | refine W.no ?_ | refine W.box (fun _ _ => ?_) | refine W.alloc (fun _ _ => ?_) | refine W.store ?_ | refine W.bs (fun _ _ => ?_) | refine W.fn hS (fun _ _ => ?_) | refine WL.nil ?_ | refine R.condT hS ?_ | refine R.condF hS ?_ | refine hS.skip ?_ | refine hS.block ?_ | refine hS.inBlock ?_ | refine R.ret hS ?_ | refine R.fin hS ?_ | refine R.begin hS ?_ | refine R.endRound hS ?_ | refine R.retRound hS ?_ | refine R.retC hS ?_ | refine R.endRangeDone hS ?_ | refine R.endRangeRet hS ?_) | refine W.split (fun _ => ?_) (fun _ => ?_) | refine R.cond hS (fun _ => ?_) (fun _ => ?_))
  refine hc _ _ ⟨?_, Ext0.out⟩
  simp only [resOf, Value.bool.injEq]
  exact any_of2 (l := l) (p := p)

instance c119 {a b m i : Int} {bp bm r : Nat} {es : Array MapEntry} {c : Nat} {f : Int → Option Bool} {h : LH} {t1 t2 : TypeId} [h1 : HgAt h bp (.cells (List.toArray [.int .i64 i]) t1 (0, 0))] [h2 : HgAt h bm (.cells (List.toArray [.map (some r)]) t2 (0, 0))] [h3 : HgAt h r (.map es c)] [hm : MiC intK boolV es c f] :
    FnC Tryd.prog 119 [.agg (List.toArray [.int .i64 a, .int .i64 b, .int .i64 m]), .pointer (some ⟨bp, 0, none⟩), .pointer (some ⟨bm, 0, none⟩)] h (.bool (b == i && (f a).getD false)) := by
  refine ⟨Con.intro (m := 3) Tryd.func119 rfl Tryd.ntmps119 rfl (by decide) ?_⟩
  intro main S hS c cs hc
  repeat (first | refine hS.seq ?_ | refine hS.regionW ?_ | refine W.pop ?_ | refine W.yes ?_ | refine W.no ?_ | refine W.box (fun _ _ => ?_) | refine W.alloc (fun _ _ => ?_) | refine W.store ?_ | refine W.bs (fun _ _ => ?_) | refine W.fn hS (fun _ _ => ?_) | refine WL.nil ?_ | refine R.condT hS ?_ | refine R.condF hS ?_ | refine hS.skip ?_ | refine hS.block ?_ | refine hS.inBlock ?_ | refine R.ret hS ?_ | refine R.fin hS ?_ | refine R.begin hS ?_ | refine R.endRound hS ?_ | refine R.retRound hS ?_ | refine R.retC hS ?_ | refine R.endRangeDone hS ?_ | refine R.endRangeRet hS ?_)
  refine W.split (fun hT => ?_) (fun hF => ?_)
  · repeat (first | refine hS.seq ?_ | refine hS.regionW ?_ | refine W.pop ?_ | refine W.yes ?_ | refine W.no ?_ | refine W.box (fun _ _ => ?_) | refine W.alloc (fun _ _ => ?_) | refine W.store ?_ | refine W.bs (fun _ _ => ?_) | refine W.fn hS (fun _ _ => ?_) | refine WL.nil ?_ | refine R.condT hS ?_ | refine R.condF hS ?_ | refine hS.skip ?_ | refine hS.block ?_ | refine hS.inBlock ?_ | refine R.ret hS ?_ | refine R.fin hS ?_ | refine R.begin hS ?_ | refine R.endRound hS ?_ | refine R.retRound hS ?_ | refine R.retC hS ?_ | refine R.endRangeDone hS ?_ | refine R.endRangeRet hS ?_)
    refine hc _ _ ⟨?_, Ext0.out⟩
    have := hT.out
    simp only [resOf, this, Bool.true_and]
  · repeat (first | refine hS.seq ?_ | refine hS.regionW ?_ | refine W.pop ?_ | refine W.yes ?_ | refine W.no ?_ | refine W.box (fun _ _ => ?_) | refine W.alloc (fun _ _ => ?_) | refine W.store ?_ | refine W.bs (fun _ _ => ?_) | refine W.fn hS (fun _ _ => ?_) | refine WL.nil ?_ | refine R.condT hS ?_ | refine R.condF hS ?_ | refine hS.skip ?_ | refine hS.block ?_ | refine hS.inBlock ?_ | refine R.ret hS ?_ | refine R.fin hS ?_ | refine R.begin hS ?_ | refine R.endRound hS ?_ | refine R.retRound hS ?_ | refine R.retC hS ?_ | refine R.endRangeDone hS ?_ | refine R.endRangeRet hS ?_)
    refine hc _ _ ⟨?_, Ext0.out⟩
    have := hF.out
    simp only [resOf, this, Bool.false_and]

/-- Ties that may be, of which none leads on from where another one leads. -/
structure GoodTi (l : List Thing) (ts : List Tie) : Prop where
  len : ts.length ≤ 64
  frm : ∀ t ∈ ts, 0 ≤ t.frm ∧ t.frm < l.length
  to : ∀ t ∈ ts, 0 ≤ t.to ∧ t.to < l.length
  ne : ∀ t ∈ ts, t.frm ≠ t.to
  most : ∀ t ∈ ts, 0 ≤ t.most ∧ t.most ≤ 1000000
  hang : ∀ t ∈ ts, ∀ x, l[t.frm.toNat]? = some x → x.ground = false
  flat : ∀ t ∈ ts, ∀ u ∈ ts, u.to ≠ t.frm

theorem c80 {l : List Thing} {ts : List Tie} {v w : Value} {h : LH} [hs : SlC h 4 v (l.map Thing.c)] [hw : SlC h 3 w (ts.map Tie.c)] (hlen : l.length ≤ 24) (g : GoodTi l ts) : FnC Tryd.prog 80 [v, w] h (.int .i64 0) := by
  have hs' : SlAt h 4 v (l.map Thing.c) := ⟨hs.out⟩
  have hw' : SlAt h 3 w (ts.map Tie.c) := ⟨hw.out⟩
  have htl := g.len
  have nl : NoW ((l.length : Int) - 1) := NoW.of (by omega) (by omega)
  refine ⟨Con.intro (m := 2) Tryd.func80 rfl Tryd.ntmps80 rfl (by decide) ?_⟩
  intro main S hS c cs hc
  repeat (first | refine hS.seq ?_ | refine hS.regionW ?_ | refine W.pop ?_ | refine W.yes ?_ | refine W.no ?_ | refine W.box (fun _ _ => ?_) | refine W.alloc (fun _ _ => ?_) | refine W.store ?_ | refine W.bs (fun _ _ => ?_) | refine W.fn hS (fun _ _ => ?_) | refine WL.nil ?_ | refine R.condT hS ?_ | refine R.condF hS ?_ | refine hS.skip ?_ | refine hS.block ?_ | refine hS.inBlock ?_ | refine R.ret hS ?_ | refine R.fin hS ?_ | refine R.begin hS ?_ | refine R.endRound hS ?_ | refine R.retRound hS ?_ | refine R.retC hS ?_ | refine R.endRangeDone hS ?_ | refine R.endRangeRet hS ?_)
  refine hS.loop ?_
  refine loop_ind (fun (i : Nat) => ts.length - i) (fun i E h' => i ≤ ts.length ∧ LookC E 0 v ∧ LookC E 1 w ∧ LookC E 11 w ∧ LookC E 12 (.int .i64 ts.length) ∧ LookC E 13 (.int .i64 (i : Nat)) ∧ Ext0 h h') ?_ 0 _ _ ⟨Nat.zero_le _, inferInstance, inferInstance, inferInstance, inferInstance, inferInstance, inferInstance⟩
  rintro i E h' ⟨hi, l0, l1, l11, l12, l13, hx⟩ ih
  by_cases hlt : i < ts.length
  · have ix : IxC ts i ts[i] := ⟨by simp [hlt]⟩
    have hmem : ts[i] ∈ ts := List.getElem_mem hlt
    have t1 : IsC (decide ((i : Int) < (ts.length : Int))) true := ⟨by simp [hlt]⟩
    have nw : NoW ((i : Int) + 1) := NoW.of (by omega) (by omega)
    have gf := g.frm _ hmem
    have gt := g.to _ hmem
    have gm := g.most _ hmem
    have t2 : IsC (!decide (0 ≤ ts[i].frm ∧ ts[i].frm ≤ (l.length : Int) - 1)) false := ⟨by simp; omega⟩
    have t3 : IsC (!decide (0 ≤ ts[i].to ∧ ts[i].to ≤ (l.length : Int) - 1)) false := ⟨by simp; omega⟩
    have t4 : IsC (ts[i].frm == ts[i].to) false := ⟨by simpa using g.ne _ hmem⟩
    have t5 : IsC (!decide (0 ≤ ts[i].most ∧ ts[i].most ≤ 1000000)) false := ⟨by simp; omega⟩
    have hk : ts[i].frm.toNat < l.length := by omega
    have nz : NatC ts[i].frm ts[i].frm.toNat := ⟨by omega⟩
    have iy : IxC l ts[i].frm.toNat l[ts[i].frm.toNat] := ⟨by simp [hk]⟩
    have t6 : IsC l[ts[i].frm.toNat].ground false := ⟨g.hang _ hmem _ iy.out⟩
    repeat (first | refine hS.seq ?_ | refine hS.regionW ?_ | refine W.pop ?_ | refine W.yes ?_ | refine W.no ?_ | refine W.box (fun _ _ => ?_) | refine W.alloc (fun _ _ => ?_) | refine W.store ?_ | refine W.bs (fun _ _ => ?_) | refine W.fn hS (fun _ _ => ?_) | refine WL.nil ?_ | refine R.condT hS ?_ | refine R.condF hS ?_ | refine hS.skip ?_ | refine hS.block ?_ | refine hS.inBlock ?_ | refine R.ret hS ?_ | refine R.fin hS ?_ | refine R.begin hS ?_ | refine R.endRound hS ?_ | refine R.retRound hS ?_ | refine R.retC hS ?_ | refine R.endRangeDone hS ?_ | refine R.endRangeRet hS ?_)
    refine hS.inLoop ?_
    exact ih (i + 1) _ _ (by omega) ⟨hlt, inferInstance, inferInstance, inferInstance, inferInstance, by have e : ((i + 1 : Nat) : Int) = (i : Int) + 1 := (by omega); rw [e]; infer_instance, inferInstance⟩
  · have t1 : IsC (decide ((i : Int) < (ts.length : Int))) false := ⟨by simp; omega⟩
    repeat (first | refine hS.seq ?_ | refine hS.regionW ?_ | refine W.pop ?_ | refine W.yes ?_ | refine W.no ?_ | refine W.box (fun _ _ => ?_) | refine W.alloc (fun _ _ => ?_) | refine W.store ?_ | refine W.bs (fun _ _ => ?_) | refine W.fn hS (fun _ _ => ?_) | refine WL.nil ?_ | refine R.condT hS ?_ | refine R.condF hS ?_ | refine hS.skip ?_ | refine hS.block ?_ | refine hS.inBlock ?_ | refine R.ret hS ?_ | refine R.fin hS ?_ | refine R.begin hS ?_ | refine R.endRound hS ?_ | refine R.retRound hS ?_ | refine R.retC hS ?_ | refine R.endRangeDone hS ?_ | refine R.endRangeRet hS ?_)
    refine hS.exit rfl ?_
    repeat (first | refine hS.seq ?_ | refine hS.regionW ?_ | refine W.pop ?_ | refine W.yes ?_ | refine W.no ?_ | refine W.box (fun _ _ => ?_) | refine W.alloc (fun _ _ => ?_) | refine W.store ?_ | refine W.bs (fun _ _ => ?_) | refine W.fn hS (fun _ _ => ?_) | refine WL.nil ?_ | refine R.condT hS ?_ | refine R.condF hS ?_ | refine hS.skip ?_ | refine hS.block ?_ | refine hS.inBlock ?_ | refine R.ret hS ?_ | refine R.fin hS ?_ | refine R.begin hS ?_ | refine R.endRound hS ?_ | refine R.retRound hS ?_ | refine R.retC hS ?_ | refine R.endRangeDone hS ?_ | refine R.endRangeRet hS ?_)
    refine W.makeMap (fun r hr => ?_)
    repeat (first | refine hS.seq ?_ | refine hS.regionW ?_ | refine W.pop ?_ | refine W.yes ?_ | refine W.no ?_ | refine W.box (fun _ _ => ?_) | refine W.alloc (fun _ _ => ?_) | refine W.store ?_ | refine W.bs (fun _ _ => ?_) | refine W.fn hS (fun _ _ => ?_) | refine WL.nil ?_ | refine R.condT hS ?_ | refine R.condF hS ?_ | refine hS.skip ?_ | refine hS.block ?_ | refine hS.inBlock ?_ | refine R.ret hS ?_ | refine R.fin hS ?_ | refine R.begin hS ?_ | refine R.endRound hS ?_ | refine R.retRound hS ?_ | refine R.retC hS ?_ | refine R.endRangeDone hS ?_ | refine R.endRangeRet hS ?_)
    rename_i p hp
    refine hS.loop ?_
    have z7 : Fresh0 h p := inferInstance
    have zr : Fresh0 h r := inferInstance
    have nrp : NeB r p := inferInstance
    have npr : NeB p r := inferInstance
    refine loop_ind (fun (i : Nat) => l.length - i) (fun i E h' => i ≤ l.length ∧ LookC E 0 v ∧ LookC E 1 w ∧ LookC E 7 (.pointer (some ⟨p, 0, none⟩)) ∧ LookC E 56 (.int .i64 l.length) ∧ LookC E 57 (.int .i64 (i : Nat)) ∧ Ext0 h h' ∧ OwnC h' r ∧ HGC h' p (.cells (List.toArray [.map (some r)]) 259 (0, 0)) ∧ OwnC h' p ∧
      ∃ es c f, HGC h' r (.map es c) ∧ MiC intK boolV es c f ∧ ∀ z, f z = if 0 ≤ z ∧ z < i then some true else none) ?_ 0 _ _ ⟨Nat.zero_le _, inferInstance, inferInstance, inferInstance, inferInstance, inferInstance, inferInstance, inferInstance, inferInstance, inferInstance, _, _, _, inferInstance, inferInstance, fun z => by rw [if_neg (by omega)]⟩
    rintro i E h' ⟨hi, l0, l1, l7, l56, l57, hx, hor, hg7, ho7, es, c0, f, hg, hm, hf⟩ ih
    by_cases hlt : i < l.length
    · have t1 : IsC (decide ((i : Int) < (l.length : Int))) true := ⟨by simp [hlt]⟩
      have nw : NoW ((i : Int) + 1) := NoW.of (by omega) (by omega)
      repeat (first | refine hS.seq ?_ | refine hS.regionW ?_ | refine W.pop ?_ | refine W.yes ?_ | refine W.no ?_ | refine W.box (fun _ _ => ?_) | refine W.alloc (fun _ _ => ?_) | refine W.store ?_ | refine W.bs (fun _ _ => ?_) | refine W.fn hS (fun _ _ => ?_) | refine WL.nil ?_ | refine R.condT hS ?_ | refine R.condF hS ?_ | refine hS.skip ?_ | refine hS.block ?_ | refine hS.inBlock ?_ | refine R.ret hS ?_ | refine R.fin hS ?_ | refine R.begin hS ?_ | refine R.endRound hS ?_ | refine R.retRound hS ?_ | refine R.retC hS ?_ | refine R.endRangeDone hS ?_ | refine R.endRangeRet hS ?_)
      refine W.mapUp intK boolV (fun es1 c1 m1 => ?_)
      repeat (first | refine hS.seq ?_ | refine hS.regionW ?_ | refine W.pop ?_ | refine W.yes ?_ | refine W.no ?_ | refine W.box (fun _ _ => ?_) | refine W.alloc (fun _ _ => ?_) | refine W.store ?_ | refine W.bs (fun _ _ => ?_) | refine W.fn hS (fun _ _ => ?_) | refine WL.nil ?_ | refine R.condT hS ?_ | refine R.condF hS ?_ | refine hS.skip ?_ | refine hS.block ?_ | refine hS.inBlock ?_ | refine R.ret hS ?_ | refine R.fin hS ?_ | refine R.begin hS ?_ | refine R.endRound hS ?_ | refine R.retRound hS ?_ | refine R.retC hS ?_ | refine R.endRangeDone hS ?_ | refine R.endRangeRet hS ?_)
      refine hS.inLoop ?_
      refine ih (i + 1) _ _ (by omega) ⟨hlt, inferInstance, inferInstance, inferInstance, inferInstance, by have e : ((i + 1 : Nat) : Int) = (i : Int) + 1 := (by omega); rw [e]; infer_instance, inferInstance, inferInstance, inferInstance, inferInstance, _, _, _, inferInstance, m1, fun z => ?_⟩
      simp only [updF, hf]
      by_cases e : z = (i : Int)
      · subst e; rw [if_pos rfl, if_pos (by omega)]
      · rw [if_neg e]
        by_cases e2 : 0 ≤ z ∧ z < (i : Int)
        · rw [if_pos e2, if_pos (by omega)]
        · rw [if_neg e2, if_neg (by omega)]
    · have ei : i = l.length := by omega
      have t1 : IsC (decide ((i : Int) < (l.length : Int))) false := ⟨by simp; omega⟩
      repeat (first | refine hS.seq ?_ | refine hS.regionW ?_ | refine W.pop ?_ | refine W.yes ?_ | refine W.no ?_ | refine W.box (fun _ _ => ?_) | refine W.alloc (fun _ _ => ?_) | refine W.store ?_ | refine W.bs (fun _ _ => ?_) | refine W.fn hS (fun _ _ => ?_) | refine WL.nil ?_ | refine R.condT hS ?_ | refine R.condF hS ?_ | refine hS.skip ?_ | refine hS.block ?_ | refine hS.inBlock ?_ | refine R.ret hS ?_ | refine R.fin hS ?_ | refine R.begin hS ?_ | refine R.endRound hS ?_ | refine R.retRound hS ?_ | refine R.retC hS ?_ | refine R.endRangeDone hS ?_ | refine R.endRangeRet hS ?_)
      refine hS.exit rfl ?_
      repeat (first | refine hS.seq ?_ | refine hS.regionW ?_ | refine W.pop ?_ | refine W.yes ?_ | refine W.no ?_ | refine W.box (fun _ _ => ?_) | refine W.alloc (fun _ _ => ?_) | refine W.store ?_ | refine W.bs (fun _ _ => ?_) | refine W.fn hS (fun _ _ => ?_) | refine WL.nil ?_ | refine R.condT hS ?_ | refine R.condF hS ?_ | refine hS.skip ?_ | refine hS.block ?_ | refine hS.inBlock ?_ | refine R.ret hS ?_ | refine R.fin hS ?_ | refine R.begin hS ?_ | refine R.endRound hS ?_ | refine R.retRound hS ?_ | refine R.retC hS ?_ | refine R.endRangeDone hS ?_ | refine R.endRangeRet hS ?_)
      refine hS.loop ?_
      -- what is left, whether something was taken away
      refine loop_ind (fun (a : List Int × Bool) => 2 * a.1.length + (if a.2 then 1 else 0)) (fun a E h' => LookC E 0 v ∧ LookC E 1 w ∧ LookC E 7 (.pointer (some ⟨p, 0, none⟩)) ∧ LookC E 9 (.bool a.2) ∧ Ext0 h h' ∧ OwnC h' r ∧ HGC h' p (.cells (List.toArray [.map (some r)]) 259 (0, 0)) ∧ OwnC h' p ∧ a.1.Nodup ∧ (∀ z ∈ a.1, 0 ≤ z ∧ z < l.length) ∧
        (a.2 = false → ∀ z ∈ a.1, ∃ t ∈ ts, t.to = z ∧ t.frm ∈ a.1) ∧ ∃ es c f, HGC h' r (.map es c) ∧ MiC intK boolV es c f ∧ ∀ z, f z = if z ∈ a.1 then some true else none) ?_ ((List.range l.length).map Int.ofNat, true) _ _
        ⟨inferInstance, inferInstance, inferInstance, inferInstance, inferInstance, inferInstance, inferInstance, inferInstance, ?_, ?_, (by simp), es, c0, f, inferInstance, inferInstance, fun z => ?_⟩
      rotate_left
      · exact List.Pairwise.map Int.ofNat (fun a b (h : a ≠ b) e => h (Int.ofNat.inj e)) List.nodup_range
      · intro z hz
        simp only [List.mem_map, List.mem_range] at hz
        obtain ⟨k, hk, rfl⟩ := hz
        exact ⟨Int.natCast_nonneg k, by simpa using hk⟩
      · rw [hf, ei]
        congr 1
        simp only [List.mem_map, List.mem_range, eq_iff_iff]
        constructor
        · rintro ⟨h1, h2⟩
          exact ⟨z.toNat, by omega, by simp; omega⟩
        · rintro ⟨k, hk, rfl⟩
          exact ⟨Int.natCast_nonneg k, by simpa using hk⟩
      rintro ⟨L, again⟩ E2 h2 ⟨l0, l1, l7, l9, hx, hor, hg7, ho7, hnd, hrg, hst, es, c0, f, hg, hm, hf⟩ ih2
      dsimp only at l9 hnd hrg hst hf ih2
      cases again with
      | false =>
        repeat (first | refine hS.seq ?_ | refine hS.regionW ?_ | refine W.pop ?_ | refine W.yes ?_ | refine W.no ?_ | refine W.box (fun _ _ => ?_) | refine W.alloc (fun _ _ => ?_) | refine W.store ?_ | refine W.bs (fun _ _ => ?_) | refine W.fn hS (fun _ _ => ?_) | refine WL.nil ?_ | refine R.condT hS ?_ | refine R.condF hS ?_ | refine hS.skip ?_ | refine hS.block ?_ | refine hS.inBlock ?_ | refine R.ret hS ?_ | refine R.fin hS ?_ | refine R.begin hS ?_ | refine R.endRound hS ?_ | refine R.retRound hS ?_ | refine R.retC hS ?_ | refine R.endRangeDone hS ?_ | refine R.endRangeRet hS ?_)
        refine hS.exit rfl ?_
        repeat (first | refine hS.seq ?_ | refine hS.regionW ?_ | refine W.pop ?_ | refine W.yes ?_ | refine W.no ?_ | refine W.box (fun _ _ => ?_) | refine W.alloc (fun _ _ => ?_) | refine W.store ?_ | refine W.bs (fun _ _ => ?_) | refine W.fn hS (fun _ _ => ?_) | refine WL.nil ?_ | refine R.condT hS ?_ | refine R.condF hS ?_ | refine hS.skip ?_ | refine hS.block ?_ | refine hS.inBlock ?_ | refine R.ret hS ?_ | refine R.fin hS ?_ | refine R.begin hS ?_ | refine R.endRound hS ?_ | refine R.retRound hS ?_ | refine R.retC hS ?_ | refine R.endRangeDone hS ?_ | refine R.endRangeRet hS ?_)
        have hL : L = [] := by
          cases L with
          | nil => rfl
          | cons z L =>
            exfalso
            obtain ⟨t, ht, h1, h2⟩ := hst rfl z List.mem_cons_self
            obtain ⟨u, hu, h3, _⟩ := hst rfl _ h2
            exact g.flat t ht u hu h3
        have h0 : es.size = 0 := hm.out.size0.2 (fun k => by rw [hf, hL]; simp)
        have t2 : IsC (decide ((es.size : Int) > 0)) false := ⟨by simp [h0]⟩
        repeat (first | refine hS.seq ?_ | refine hS.regionW ?_ | refine W.pop ?_ | refine W.yes ?_ | refine W.no ?_ | refine W.box (fun _ _ => ?_) | refine W.alloc (fun _ _ => ?_) | refine W.store ?_ | refine W.bs (fun _ _ => ?_) | refine W.fn hS (fun _ _ => ?_) | refine WL.nil ?_ | refine R.condT hS ?_ | refine R.condF hS ?_ | refine hS.skip ?_ | refine hS.block ?_ | refine hS.inBlock ?_ | refine R.ret hS ?_ | refine R.fin hS ?_ | refine R.begin hS ?_ | refine R.endRound hS ?_ | refine R.retRound hS ?_ | refine R.retC hS ?_ | refine R.endRangeDone hS ?_ | refine R.endRangeRet hS ?_)
        exact hc _ _ ⟨rfl, Ext0.out⟩
      | true =>
        repeat (first | refine hS.seq ?_ | refine hS.regionW ?_ | refine W.pop ?_ | refine W.yes ?_ | refine W.no ?_ | refine W.box (fun _ _ => ?_) | refine W.alloc (fun _ _ => ?_) | refine W.store ?_ | refine W.bs (fun _ _ => ?_) | refine W.fn hS (fun _ _ => ?_) | refine WL.nil ?_ | refine R.condT hS ?_ | refine R.condF hS ?_ | refine hS.skip ?_ | refine hS.block ?_ | refine hS.inBlock ?_ | refine R.ret hS ?_ | refine R.fin hS ?_ | refine R.begin hS ?_ | refine R.endRound hS ?_ | refine R.retRound hS ?_ | refine R.retC hS ?_ | refine R.endRangeDone hS ?_ | refine R.endRangeRet hS ?_)
        refine hS.loop ?_
        refine loop_ind (fun (a : Nat × List Int × Bool) => l.length - a.1) (fun a E h' => a.1 ≤ l.length ∧ LookC E 0 v ∧ LookC E 1 w ∧ LookC E 7 (.pointer (some ⟨p, 0, none⟩)) ∧ LookC E 9 (.bool a.2.2) ∧ LookC E 65 (.int .i64 l.length) ∧ LookC E 66 (.int .i64 (a.1 : Nat)) ∧ Ext0 h h' ∧ OwnC h' r ∧ HGC h' p (.cells (List.toArray [.map (some r)]) 259 (0, 0)) ∧ OwnC h' p ∧ a.2.1.Nodup ∧ (∀ z ∈ a.2.1, 0 ≤ z ∧ z < l.length) ∧
          (a.2.2 = true → a.2.1.length < L.length) ∧ (a.2.2 = false → a.2.1.length ≤ L.length ∧ ∀ z ∈ a.2.1, z < a.1 → ∃ t ∈ ts, t.to = z ∧ t.frm ∈ a.2.1) ∧ ∃ es c f, HGC h' r (.map es c) ∧ MiC intK boolV es c f ∧ ∀ z, f z = if z ∈ a.2.1 then some true else none) ?_ (0, L, false) _ _
          ⟨Nat.zero_le _, inferInstance, inferInstance, inferInstance, inferInstance, inferInstance, inferInstance, inferInstance, inferInstance, inferInstance, inferInstance, hnd, hrg, (by simp), fun _ => ⟨Nat.le_refl _, fun z hz hz2 => by have := hrg z hz; simp at hz2; omega⟩, es, c0, f, inferInstance, inferInstance, hf⟩
        rintro ⟨i, M, again⟩ E3 h3 ⟨hi, l0, l1, l7, l9, l65, l66, hx, hor, hg7, ho7, hnd, hrg, hsm, hst, es, c0, f, hg, hm, hf⟩ ih3
        dsimp only at hi l9 l66 hnd hrg hsm hst hf ih3
        by_cases hlt : i < l.length
        · have t1 : IsC (decide ((i : Int) < (l.length : Int))) true := ⟨by simp [hlt]⟩
          have nw : NoW ((i : Int) + 1) := NoW.of (by omega) (by omega)
          have ei : ((i + 1 : Nat) : Int) = (i : Int) + 1 := by omega
          repeat (first | refine hS.seq ?_ | refine hS.regionW ?_ | refine W.pop ?_ | refine W.yes ?_ | refine W.no ?_ | refine W.box (fun _ _ => ?_) | refine W.alloc (fun _ _ => ?_) | refine W.store ?_ | refine W.bs (fun _ _ => ?_) | refine W.fn hS (fun _ _ => ?_) | refine WL.nil ?_ | refine R.condT hS ?_ | refine R.condF hS ?_ | refine hS.skip ?_ | refine hS.block ?_ | refine hS.inBlock ?_ | refine R.ret hS ?_ | refine R.fin hS ?_ | refine R.begin hS ?_ | refine R.endRound hS ?_ | refine R.retRound hS ?_ | refine R.retC hS ?_ | refine R.endRangeDone hS ?_ | refine R.endRangeRet hS ?_)
          rename_i q hq
          refine W.split (fun hT => ?_) (fun hF => ?_)
          · have hin : (i : Int) ∈ M := by
              have := hT.out
              rw [hf] at this
              by_cases hin : (i : Int) ∈ M
              · exact hin
              · rw [if_neg hin] at this; cases this
            repeat (first | refine hS.seq ?_ | refine hS.regionW ?_ | refine W.pop ?_ | refine W.yes ?_ | refine W.no ?_ | refine W.box (fun _ _ => ?_) | refine W.alloc (fun _ _ => ?_) | refine W.store ?_ | refine W.bs (fun _ _ => ?_) | refine W.fn hS (fun _ _ => ?_) | refine WL.nil ?_ | refine R.condT hS ?_ | refine R.condF hS ?_ | refine hS.skip ?_ | refine hS.block ?_ | refine hS.inBlock ?_ | refine R.ret hS ?_ | refine R.fin hS ?_ | refine R.begin hS ?_ | refine R.endRound hS ?_ | refine R.retRound hS ?_ | refine R.retC hS ?_ | refine R.endRangeDone hS ?_ | refine R.endRangeRet hS ?_)
            refine W.fn hS (hc := c118 (l := ts) (toC := Tie.c) (p := fun t => t.to == (i : Int) && (f t.frm).getD false) (by omega) (fun t _ h4 hx4 => by
              have g1 : HgAt h4 q (.cells (List.toArray [.int .i64 (i : Int)]) 3 (0, 0)) := ⟨HG.ext HGC.out hx4.out⟩
              have g2 : HgAt h4 p (.cells (List.toArray [.map (some r)]) 259 (0, 0)) := ⟨HG.ext HGC.out hx4.out⟩
              have g3 : HgAt h4 r (.map es c0) := ⟨HG.ext HGC.out hx4.out⟩
              exact c119 (h := h4) (a := t.frm) (b := t.to) (m := t.most) (i := (i : Int)) (bp := q) (bm := p) (r := r) (es := es) (c := c0) (f := f) (t1 := 3) (t2 := 259))) (fun _ _ => ?_)
            repeat (first | refine hS.seq ?_ | refine hS.regionW ?_ | refine W.pop ?_ | refine W.yes ?_ | refine W.no ?_ | refine W.box (fun _ _ => ?_) | refine W.alloc (fun _ _ => ?_) | refine W.store ?_ | refine W.bs (fun _ _ => ?_) | refine W.fn hS (fun _ _ => ?_) | refine WL.nil ?_ | refine R.condT hS ?_ | refine R.condF hS ?_ | refine hS.skip ?_ | refine hS.block ?_ | refine hS.inBlock ?_ | refine R.ret hS ?_ | refine R.fin hS ?_ | refine R.begin hS ?_ | refine R.endRound hS ?_ | refine R.retRound hS ?_ | refine R.retC hS ?_ | refine R.endRangeDone hS ?_ | refine R.endRangeRet hS ?_)
            refine R.cond hS (fun hT => ?_) (fun hF => ?_)
            · repeat (first | refine hS.seq ?_ | refine hS.regionW ?_ | refine W.pop ?_ | refine W.yes ?_ | refine W.no ?_ | refine W.box (fun _ _ => ?_) | refine W.alloc (fun _ _ => ?_) | refine W.store ?_ | refine W.bs (fun _ _ => ?_) | refine W.fn hS (fun _ _ => ?_) | refine WL.nil ?_ | refine R.condT hS ?_ | refine R.condF hS ?_ | refine hS.skip ?_ | refine hS.block ?_ | refine hS.inBlock ?_ | refine R.ret hS ?_ | refine R.fin hS ?_ | refine R.begin hS ?_ | refine R.endRound hS ?_ | refine R.retRound hS ?_ | refine R.retC hS ?_ | refine R.endRangeDone hS ?_ | refine R.endRangeRet hS ?_)
              refine W.mapDel intK boolV (fun es1 c1 m1 => ?_)
              repeat (first | refine hS.seq ?_ | refine hS.regionW ?_ | refine W.pop ?_ | refine W.yes ?_ | refine W.no ?_ | refine W.box (fun _ _ => ?_) | refine W.alloc (fun _ _ => ?_) | refine W.store ?_ | refine W.bs (fun _ _ => ?_) | refine W.fn hS (fun _ _ => ?_) | refine WL.nil ?_ | refine R.condT hS ?_ | refine R.condF hS ?_ | refine hS.skip ?_ | refine hS.block ?_ | refine hS.inBlock ?_ | refine R.ret hS ?_ | refine R.fin hS ?_ | refine R.begin hS ?_ | refine R.endRound hS ?_ | refine R.retRound hS ?_ | refine R.retC hS ?_ | refine R.endRangeDone hS ?_ | refine R.endRangeRet hS ?_)
              refine hS.inLoop ?_
              have hlt1 : (M.erase (i : Int)).length < L.length := by
                rw [List.length_erase_of_mem hin]
                have h0 : 0 < M.length := List.length_pos_of_mem hin
                cases again with
                | true => have := hsm rfl; omega
                | false => have := (hst rfl).1; omega
              refine ih3 (i + 1, M.erase (i : Int), true) _ _ (by dsimp only; omega) ⟨hlt, inferInstance, inferInstance, inferInstance, inferInstance, inferInstance, by dsimp only; rw [ei]; infer_instance, inferInstance, inferInstance, inferInstance, inferInstance, hnd.erase _, fun z hz => hrg z (List.mem_of_mem_erase hz), fun _ => hlt1, fun h => (by cases h), _, _, _, inferInstance, m1, fun z => ?_⟩
              simp only [delF, hf, hnd.mem_erase_iff]
              by_cases e : z = (i : Int)
              · simp [e]
              · simp [e]
            · have hno := hF.out
              repeat (first | refine hS.seq ?_ | refine hS.regionW ?_ | refine W.pop ?_ | refine W.yes ?_ | refine W.no ?_ | refine W.box (fun _ _ => ?_) | refine W.alloc (fun _ _ => ?_) | refine W.store ?_ | refine W.bs (fun _ _ => ?_) | refine W.fn hS (fun _ _ => ?_) | refine WL.nil ?_ | refine R.condT hS ?_ | refine R.condF hS ?_ | refine hS.skip ?_ | refine hS.block ?_ | refine hS.inBlock ?_ | refine R.ret hS ?_ | refine R.fin hS ?_ | refine R.begin hS ?_ | refine R.endRound hS ?_ | refine R.retRound hS ?_ | refine R.retC hS ?_ | refine R.endRangeDone hS ?_ | refine R.endRangeRet hS ?_)
              refine hS.inLoop ?_
              refine ih3 (i + 1, M, again) _ _ (by dsimp only; omega) ⟨hlt, inferInstance, inferInstance, inferInstance, inferInstance, inferInstance, by dsimp only; rw [ei]; infer_instance, inferInstance, inferInstance, inferInstance, inferInstance, hnd, hrg, hsm, fun ha => ⟨(hst ha).1, fun z hz hz2 => ?_⟩, _, _, _, inferInstance, hm, hf⟩
              by_cases e : z = (i : Int)
              · subst e
                have hany : ts.any (fun t => t.to == (i : Int) && (f t.frm).getD false) = true := by
                  simpa using hno
                rw [List.any_eq_true] at hany
                obtain ⟨t, ht, h5⟩ := hany
                simp only [Bool.and_eq_true, beq_iff_eq] at h5
                refine ⟨t, ht, h5.1, ?_⟩
                have h6 := h5.2
                rw [hf] at h6
                by_cases hin2 : t.frm ∈ M
                · exact hin2
                · rw [if_neg hin2] at h6; cases h6
              · exact (hst ha).2 z hz (by dsimp only at hz2; omega)
          · have hnin : (i : Int) ∉ M := by
              intro hin
              have := hF.out
              rw [hf, if_pos hin] at this
              cases this
            repeat (first | refine hS.seq ?_ | refine hS.regionW ?_ | refine W.pop ?_ | refine W.yes ?_ | refine W.no ?_ | refine W.box (fun _ _ => ?_) | refine W.alloc (fun _ _ => ?_) | refine W.store ?_ | refine W.bs (fun _ _ => ?_) | refine W.fn hS (fun _ _ => ?_) | refine WL.nil ?_ | refine R.condT hS ?_ | refine R.condF hS ?_ | refine hS.skip ?_ | refine hS.block ?_ | refine hS.inBlock ?_ | refine R.ret hS ?_ | refine R.fin hS ?_ | refine R.begin hS ?_ | refine R.endRound hS ?_ | refine R.retRound hS ?_ | refine R.retC hS ?_ | refine R.endRangeDone hS ?_ | refine R.endRangeRet hS ?_)
            refine hS.inLoop ?_
            refine ih3 (i + 1, M, again) _ _ (by dsimp only; omega) ⟨hlt, inferInstance, inferInstance, inferInstance, inferInstance, inferInstance, by dsimp only; rw [ei]; infer_instance, inferInstance, inferInstance, inferInstance, inferInstance, hnd, hrg, hsm, fun ha => ⟨(hst ha).1, fun z hz hz2 => ?_⟩, _, _, _, inferInstance, hm, hf⟩
            have e : z ≠ (i : Int) := fun e => hnin (e ▸ hz)
            exact (hst ha).2 z hz (by dsimp only at hz2; omega)
        · have ei : i = l.length := by omega
          have t1 : IsC (decide ((i : Int) < (l.length : Int))) false := ⟨by simp; omega⟩
          repeat (first | refine hS.seq ?_ | refine hS.regionW ?_ | refine W.pop ?_ | refine W.yes ?_ | refine W.no ?_ | refine W.box (fun _ _ => ?_) | refine W.alloc (fun _ _ => ?_) | refine W.store ?_ | refine W.bs (fun _ _ => ?_) | refine W.fn hS (fun _ _ => ?_) | refine WL.nil ?_ | refine R.condT hS ?_ | refine R.condF hS ?_ | refine hS.skip ?_ | refine hS.block ?_ | refine hS.inBlock ?_ | refine R.ret hS ?_ | refine R.fin hS ?_ | refine R.begin hS ?_ | refine R.endRound hS ?_ | refine R.retRound hS ?_ | refine R.retC hS ?_ | refine R.endRangeDone hS ?_ | refine R.endRangeRet hS ?_)
          refine hS.exit rfl ?_
          repeat (first | refine hS.seq ?_ | refine hS.regionW ?_ | refine W.pop ?_ | refine W.yes ?_ | refine W.no ?_ | refine W.box (fun _ _ => ?_) | refine W.alloc (fun _ _ => ?_) | refine W.store ?_ | refine W.bs (fun _ _ => ?_) | refine W.fn hS (fun _ _ => ?_) | refine WL.nil ?_ | refine R.condT hS ?_ | refine R.condF hS ?_ | refine hS.skip ?_ | refine hS.block ?_ | refine hS.inBlock ?_ | refine R.ret hS ?_ | refine R.fin hS ?_ | refine R.begin hS ?_ | refine R.endRound hS ?_ | refine R.retRound hS ?_ | refine R.retC hS ?_ | refine R.endRangeDone hS ?_ | refine R.endRangeRet hS ?_)
          refine hS.inLoop ?_
          refine ih2 (M, again) _ _ ?_ ⟨inferInstance, inferInstance, inferInstance, inferInstance, inferInstance, inferInstance, inferInstance, inferInstance, hnd, hrg, fun ha z hz => (hst ha).2 z hz (by have := hrg z hz; rw [ei]; omega), _, _, _, inferInstance, hm, hf⟩
          dsimp only
          cases again with
          | true => have := hsm rfl; simp; omega
          | false => have := (hst rfl).1; simp; omega

theorem c38 {l : List Thing} {ts : List Tie} {v w : Value} {h : LH} [sv : SingleC v] [sw : SingleC w] [hs : SlC h 4 v (l.map Thing.c)] [hw : SlC h 3 w (ts.map Tie.c)] (gh : GoodTh l) (g : GoodTi l ts) : FnC Tryd.prog 38 [.agg (List.toArray [v, w])] h (.int .i64 0) := by
  have hs' : SlAt h 4 v (l.map Thing.c) := ⟨hs.out⟩
  have hw' : SlAt h 3 w (ts.map Tie.c) := ⟨hw.out⟩
  have htl := g.len
  have t1 : IsC ((0 : Int) != 0) false := ⟨rfl⟩
  have t2 : IsC (decide ((ts.length : Int) > 64)) false := ⟨by simp; omega⟩
  refine ⟨Con.intro (m := 1) Tryd.func38 rfl Tryd.ntmps38 rfl (by decide) ?_⟩
  intro main S hS c cs hc
  repeat (first | refine hS.seq ?_ | refine hS.regionW ?_ | refine W.pop ?_ | refine W.yes ?_ | refine W.no ?_ | refine W.box (fun _ _ => ?_) | refine W.alloc (fun _ _ => ?_) | refine W.store ?_ | refine W.bs (fun _ _ => ?_) | refine W.fn hS (fun _ _ => ?_) | refine WL.nil ?_ | refine R.condT hS ?_ | refine R.condF hS ?_ | refine hS.skip ?_ | refine hS.block ?_ | refine hS.inBlock ?_ | refine R.ret hS ?_ | refine R.fin hS ?_ | refine R.begin hS ?_ | refine R.endRound hS ?_ | refine R.retRound hS ?_ | refine R.retC hS ?_ | refine R.endRangeDone hS ?_ | refine R.endRangeRet hS ?_)
  refine W.fn hS (hc := c79 gh) (fun _ _ => ?_)
  repeat (first | refine hS.seq ?_ | refine hS.regionW ?_ | refine W.pop ?_ | refine W.yes ?_ | refine W.no ?_ | refine W.box (fun _ _ => ?_) | refine W.alloc (fun _ _ => ?_) | refine W.store ?_ | refine W.bs (fun _ _ => ?_) | refine W.fn hS (fun _ _ => ?_) | refine WL.nil ?_ | refine R.condT hS ?_ | refine R.condF hS ?_ | refine hS.skip ?_ | refine hS.block ?_ | refine hS.inBlock ?_ | refine R.ret hS ?_ | refine R.fin hS ?_ | refine R.begin hS ?_ | refine R.endRound hS ?_ | refine R.retRound hS ?_ | refine R.retC hS ?_ | refine R.endRangeDone hS ?_ | refine R.endRangeRet hS ?_)
  refine W.fn hS (hc := c80 (v := v) (w := w) gh.len g) (fun _ _ => ?_)
  repeat (first | refine hS.seq ?_ | refine hS.regionW ?_ | refine W.pop ?_ | refine W.yes ?_ | refine W.no ?_ | refine W.box (fun _ _ => ?_) | refine W.alloc (fun _ _ => ?_) | refine W.store ?_ | refine W.bs (fun _ _ => ?_) | refine W.fn hS (fun _ _ => ?_) | refine WL.nil ?_ | refine R.condT hS ?_ | refine R.condF hS ?_ | refine hS.skip ?_ | refine hS.block ?_ | refine hS.inBlock ?_ | refine R.ret hS ?_ | refine R.fin hS ?_ | refine R.begin hS ?_ | refine R.endRound hS ?_ | refine R.retRound hS ?_ | refine R.retC hS ?_ | refine R.endRangeDone hS ?_ | refine R.endRangeRet hS ?_)
  exact hc _ _ ⟨rfl, Ext0.out⟩
end Go.Proofs.YtankmjkogcbnfaaDoor
/-
  fix.lay: a pipe more.
-/
namespace Go.Proofs.YtankmjkogcbnfaaDoor
open Go Go.SL Go.Conc
instance nbFresh {h : LH} {v : Value} {p sz : Nat} {xs : List (List Value)} [f : FreshAt h p] [w : SlwC h sz v xs] : NbC v p := ⟨fun e => w.out.dom e f.out⟩
def Pipe.c (p : Pipe) : List Value := [.int .i64 p.frm.t, .bool p.frm.a, .bool p.frm.b, .int .i64 p.to.t, .bool p.to.a, .bool p.to.b, .int .i64 p.tie]
instance elPi {l : List Pipe} {i : Nat} {x : Pipe} [q : IxC l i x] : ElC (l.map Pipe.c) i [.int .i64 x.frm.t, .bool x.frm.a, .bool x.frm.b, .int .i64 x.to.t, .bool x.to.a, .bool x.to.b, .int .i64 x.tie] := ⟨by simp [q.out, Pipe.c]⟩
theorem slOne {h : LH} {q : Nat} {c : List Value} {e : TypeId} {f : Nat × Nat} (hg : HG h q (.cells c.toArray e f)) {n : Nat} (hn : c.length = n) : SlE h n (.slice (some ⟨q, 0, none⟩) 1 1) [c] := by
  refine ⟨some ⟨q, 0, none⟩, 1, by simp, by simp, fun i cs hi => ?_⟩
  cases i with
  | zero => simp at hi; subst hi; exact ⟨q, 0, c.toArray, e, f, rfl, hg, hn, by simp [hn], by simp [← hn]⟩
  | succ i => simp at hi
/-- A flow at an address. -/
structure FlowAt (h0 h : LH) (p : Nat) (sl : Value) (rh rm : Nat) (ps : List Pipe) (has most : Pipe → Option Int) : Prop where
  hp : HG h p (.cells (List.toArray [sl, .map (some rh), .map (some rm)]) 211 (0, 0))
  op : Own h p
  w : SlW h 7 sl (ps.map Pipe.c)
  nb : blkOf sl ≠ some p
  hh : ∃ es c, HG h rh (.map es c) ∧ MapI pipeK intK es c has
  oh : Own h rh
  hm : ∃ es c, HG h rm (.map es c) ∧ MapI pipeK intK es c most
  om : Own h rm
  ne : rh ≠ rm
  new : h0.get p = none ∧ NewB h0 sl ∧ h0.get rh = none ∧ h0.get rm = none
theorem FlowAt.nph {h0 h : LH} {p : Nat} {sl : Value} {rh rm : Nat} {ps : List Pipe} {has most : Pipe → Option Int} (f : FlowAt h0 h p sl rh rm ps has most) : p ≠ rh ∧ p ≠ rm := by
  obtain ⟨es, c, h1, _⟩ := f.hh
  obtain ⟨es', c', h2, _⟩ := f.hm
  have h3 := f.hp
  simp only [HG] at h1 h2 h3
  constructor
  · rintro rfl; rw [h3] at h1; cases h1
  · rintro rfl; rw [h3] at h2; cases h2
theorem slw_map {h : LH} {sz : Nat} {v : Value} {xs : List (List Value)} {r : Nat} {es : Array MapEntry} {c : Nat} (w : SlW h sz v xs) (hg : HG h r (.map es c)) : blkOf v ≠ some r := by
  obtain ⟨_, ⟨rfl, _⟩ | ⟨b, off, cap, cs, e, rfl, _, _, h4, _⟩⟩ := w
  · simp [blkOf]
  · intro e
    simp only [blkOf, Option.some.injEq] at e
    subst e
    simp only [HG] at hg h4
    rw [hg] at h4; cases h4
theorem FlowAt.ext {h0 h h' : LH} {p : Nat} {sl : Value} {rh rm : Nat} {ps : List Pipe} {has most : Pipe → Option Int} (f : FlowAt h0 h p sl rh rm ps has most) (x : Ext h h') : FlowAt h0 h' p sl rh rm ps has most := by
  obtain ⟨es, c, h1, h2⟩ := f.hh
  obtain ⟨es', c', h3, h4⟩ := f.hm
  exact ⟨f.hp.ext x, f.op.ext x, f.w.ext x, f.nb, ⟨es, c, h1.ext x, h2⟩, f.oh.ext x, ⟨es', c', h3.ext x, h4⟩, f.om.ext x, f.ne, f.new⟩
theorem FlowAt.upd {h0 h : LH} {p : Nat} {sl : Value} {rh rm : Nat} {ps : List Pipe} {has most : Pipe → Option Int} {b : Nat} {o : Obj} (f : FlowAt h0 h p sl rh rm ps has most) (h1 : p ≠ b) (h2 : blkOf sl ≠ some b) (h3 : rh ≠ b) (h4 : rm ≠ b) : FlowAt h0 (h.upd b o) p sl rh rm ps has most := by
  obtain ⟨es, c, k1, k2⟩ := f.hh
  obtain ⟨es', c', k3, k4⟩ := f.hm
  exact ⟨f.hp.ne h1, f.op.miss, f.w.ne h2, f.nb, ⟨es, c, k1.ne h3, k2⟩, f.oh.miss, ⟨es', c', k3.ne h4, k4⟩, f.om.miss, f.ne, f.new⟩
/-- All but three blocks are as they were. -/
structure FrF (h h' : LH) (p rm : Nat) (sl : Value) : Prop where
  get : ∀ b o, h.get b = some o → b ≠ p → b ≠ rm → blkOf sl ≠ some b → h'.get b = some o
  own : ∀ b, h.own b → h'.own b
  gh : h'.gh = h.gh
theorem FrF.hg {h h' : LH} {p rm : Nat} {sl : Value} {b : Nat} {o : Obj} (f : FrF h h' p rm sl) [g : HGC h b o] [n1 : NeB b p] [n2 : NeB b rm] [n : NbC sl b] : HGC h' b o := ⟨f.get _ _ g.out n1.out n2.out n.out⟩
theorem FrF.ow {h h' : LH} {p rm : Nat} {sl : Value} {b : Nat} (f : FrF h h' p rm sl) [g : OwnC h b] : OwnC h' b := ⟨f.own _ g.out⟩
theorem slw_single {h : LH} {sz : Nat} {v : Value} {xs : List (List Value)} (w : SlW h sz v xs) : SingleC v := ⟨by obtain ⟨_, ⟨rfl, _⟩ | ⟨_, _, _, _, _, rfl, _⟩⟩ := w <;> rfl⟩
theorem FrF.mk2 {h h1 h7 : LH} {p rm : Nat} {sl : Value} {o o' : Obj} (x : Ext h h1) (fr : FrW h1 h7 sl) : FrF h ((h7.upd p o).upd rm o') p rm sl :=
  ⟨fun z y hz n1 n2 n3 => by simp only [LH.upd, if_neg n1, if_neg n2]; exact fr.get z y (x.get z y hz) n3, fun z hz => .inl (.inl (fr.own z (x.own z hz))), fr.gh.trans x.gh⟩
theorem nb_of {h : LH} {s s' : Value} {b : Nat} (hb : blkOf s' = blkOf s ∨ ∃ q, blkOf s' = some q ∧ h.get q = none) [n : NbC s b] [d : DomC h b] : NbC s' b := ⟨fun e => by
  rcases hb with hb | ⟨q, h1, h2⟩
  · exact n.out (hb.symm.trans e)
  · rw [h1] at e; cases e; exact d.out h2⟩
theorem ext_of {h h1 h7 : LH} {s : Value} (_ : FrW h1 h7 s) [e : Ext0 h h1] : Ext h h1 := e.out
theorem new_of {h0 h1 : LH} {s s' : Value} (hb : blkOf s' = blkOf s ∨ ∃ q, blkOf s' = some q ∧ h1.get q = none) (n : NewB h0 s) (x : Ext h0 h1) : NewB h0 s' := fun b e => by
  rcases hb with hb | ⟨q, h1, h2⟩
  · exact n b (hb.symm.trans e)
  · rw [h1] at e; cases e; exact fresh_of h2 x
attribute [local irreducible] putE ofL Look Nth Ev HG Own SubL Wr Sgl EvL LH.upd WL OpS Any Con PopW Pop
theorem sgl_pi (p : Pipe) : Sgl [Pipe.c p].flatten := by
  unfold Sgl; intro v hv; simp [Pipe.c] at hv; rcases hv with rfl | rfl | rfl | rfl | rfl | rfl | rfl <;> rfl

theorem c120 {h0 h : LH} {p : Nat} {sl : Value} {rh rm : Nat} {ps : List Pipe} {has most : Pipe → Option Int} {t u k m : Int} {a b c d : Bool} (f : FlowAt h0 h p sl rh rm ps has most) (x0 : Ext h0 h) (hn : ps.length ≤ 10000) :
    Con Tryd.prog 120 [.pointer (some ⟨p, 0, none⟩), .agg (List.toArray [.int .i64 t, .bool a, .bool b]), .agg (List.toArray [.int .i64 u, .bool c, .bool d]), .int .i64 k, .int .i64 m] h (fun r h' => r = .tuple (List.toArray []) ∧ FrF h h' p rm sl ∧ Ext h0 h' ∧
      ∃ sl', (blkOf sl' = blkOf sl ∨ ∃ q, blkOf sl' = some q ∧ h.get q = none) ∧ FlowAt h0 h' p sl' rh rm (ps ++ [⟨⟨t, a, b⟩, ⟨u, c, d⟩, k⟩]) has (updF most ⟨⟨t, a, b⟩, ⟨u, c, d⟩, k⟩ m)) := by
  obtain ⟨eh, ch, kh1, kh2⟩ := f.hh
  obtain ⟨em, cm, km1, km2⟩ := f.hm
  have np := f.nph
  have gp : HGC h p (.cells (List.toArray [sl, .map (some rh), .map (some rm)]) 211 (0, 0)) := ⟨f.hp⟩
  have op : OwnC h p := ⟨f.op⟩
  have sw : SlwC h 7 sl (ps.map Pipe.c) := ⟨f.w⟩
  have ss := slw_single f.w
  have gh : HGC h rh (.map eh ch) := ⟨kh1⟩
  have oh : OwnC h rh := ⟨f.oh⟩
  have gm : HGC h rm (.map em cm) := ⟨km1⟩
  have mm : MiC pipeK intK em cm most := ⟨km2⟩
  have om : OwnC h rm := ⟨f.om⟩
  have n1 : NeB p rh := ⟨np.1⟩
  have n2 : NeB rh p := ⟨np.1.symm⟩
  have n3 : NeB p rm := ⟨np.2⟩
  have n4 : NeB rm p := ⟨np.2.symm⟩
  have n5 : NeB rh rm := ⟨f.ne⟩
  have n6 : NeB rm rh := ⟨f.ne.symm⟩
  have b1 : NbC sl p := ⟨f.nb⟩
  have b2 : NbC sl rh := ⟨slw_map f.w kh1⟩
  have b3 : NbC sl rm := ⟨slw_map f.w km1⟩
  refine Con.intro (m := 5) Tryd.func120 rfl Tryd.ntmps120 rfl (by decide) ?_
  intro main S hS cc cs hc
  repeat (first | refine hS.seq ?_ | refine hS.regionW ?_ | refine W.pop ?_ | refine W.yes ?_ | refine W.no ?_ | refine W.box (fun _ _ => ?_) | refine W.alloc (fun _ _ => ?_) | refine W.store ?_ | refine W.bs (fun _ _ => ?_) | refine W.fn hS (fun _ _ => ?_) | refine WL.nil ?_ | refine R.condT hS ?_ | refine R.condF hS ?_ | refine hS.skip ?_ | refine hS.block ?_ | refine hS.inBlock ?_ | refine R.ret hS ?_ | refine R.fin hS ?_ | refine R.begin hS ?_ | refine R.endRound hS ?_ | refine R.retRound hS ?_ | refine R.retC hS ?_ | refine R.endRangeDone hS ?_ | refine R.endRangeRet hS ?_)
  rename_i q6 f6 q7 f7 q10 f10
  have xx0 : Ext0 h0 h := ⟨x0⟩
  have fp : Fresh0 h0 p := ⟨f.new.1⟩
  have fm : Fresh0 h0 rm := ⟨f.new.2.2.2⟩
  refine hS.regionA mixed [7,10] ?_
  first | (refine A.takeM 0 rfl (by kernel_rfl) (by intro _ _ e; cases e) ?_) | (refine A.take 0 rfl (by kernel_rfl) (by intro _ _ e; cases e) ?_)
  first | (refine A.takeM 1 rfl (by kernel_rfl) (by intro _ _ e; cases e) ?_) | (refine A.take 1 rfl (by kernel_rfl) (by intro _ _ e; cases e) ?_)
  refine A.take 2 rfl (by kernel_rfl) (by intro _ _ e; cases e) ?_
  refine A.take 3 rfl (by kernel_rfl) (by intro _ _ e; cases e) ?_
  refine A.take 4 rfl (by kernel_rfl) (by intro _ _ e; cases e) ?_
  refine A.take 5 rfl (by kernel_rfl) (by intro _ _ e; cases e) ?_
  refine A.one 6 rfl (by kernel_rfl) ?_
  first | refine W.pop ?_ | refine W.fn hS (fun _ _ => ?_) | refine W.bs (fun _ _ => ?_) | refine W.box (fun _ _ => ?_) | refine W.alloc (fun _ _ => ?_) | refine W.store ?_
  refine A.soft ?_
  refine A.one 7 rfl (by kernel_rfl) ?_
  refine W.append (xs := ps.map Pipe.c) (ys := [Pipe.c ⟨⟨t, a, b⟩, ⟨u, c, d⟩, k⟩]) (by_ := 40) (by kernel_rfl) SlwC.out (slOne (n := 7) HGC.out rfl) (sgl_pi _) (by simp; omega) (by simp; omega) (fun s' h7 hw7 fr7 hb7 => ?_)
  have xh := ext_of (h := h) fr7
  have xh0 := ext_of (h := h0) fr7
  have y1 := fr7.hg (b := p)
  have y2 := fr7.ow (b := p)
  have y3 : SlwC h7 7 s' _ := ⟨hw7⟩
  have y4 := slw_single hw7
  have y5 := fr7.hg (b := rh)
  have y6 := fr7.ow (b := rh)
  have y7 := fr7.hg (b := rm)
  have y8 := fr7.ow (b := rm)
  have y9 := fr7.hg (b := q10)
  have e1 : NbC s' p := nb_of hb7
  have e2 : NbC s' rm := nb_of hb7
  have z7 : Ext0 h0 h7 := ⟨fr7.ext f.new.2.1 Ext0.out⟩
  refine A.hard (by rfl) ?_
  refine A.take 8 rfl (by kernel_rfl) (by intro _ _ e; cases e) ?_
  refine A.take 9 rfl (by kernel_rfl) (by intro _ _ e; cases e) ?_
  refine A.one 10 rfl (by kernel_rfl) ?_
  first | refine W.pop ?_ | refine W.fn hS (fun _ _ => ?_) | refine W.bs (fun _ _ => ?_) | refine W.box (fun _ _ => ?_) | refine W.alloc (fun _ _ => ?_) | refine W.store ?_
  refine A.hard (by rfl) ?_
  refine Any.done (by kernel_rfl) ?_
  repeat (first | refine hS.seq ?_ | refine hS.regionW ?_ | refine W.pop ?_ | refine W.yes ?_ | refine W.no ?_ | refine W.box (fun _ _ => ?_) | refine W.alloc (fun _ _ => ?_) | refine W.store ?_ | refine W.bs (fun _ _ => ?_) | refine W.fn hS (fun _ _ => ?_) | refine WL.nil ?_ | refine R.condT hS ?_ | refine R.condF hS ?_ | refine hS.skip ?_ | refine hS.block ?_ | refine hS.inBlock ?_ | refine R.ret hS ?_ | refine R.fin hS ?_ | refine R.begin hS ?_ | refine R.endRound hS ?_ | refine R.retRound hS ?_ | refine R.retC hS ?_ | refine R.endRangeDone hS ?_ | refine R.endRangeRet hS ?_)
  refine hS.regionA mixed [6] ?_
  first | (refine A.takeM 0 rfl (by kernel_rfl) (by intro _ _ e; cases e) ?_) | (refine A.take 0 rfl (by kernel_rfl) (by intro _ _ e; cases e) ?_)
  refine A.take 1 rfl (by kernel_rfl) (by intro _ _ e; cases e) ?_
  refine A.take 2 rfl (by kernel_rfl) (by intro _ _ e; cases e) ?_
  refine A.take 3 rfl (by kernel_rfl) (by intro _ _ e; cases e) ?_
  refine A.take 4 rfl (by kernel_rfl) (by intro _ _ e; cases e) ?_
  first | (refine A.takeM 5 rfl (by kernel_rfl) (by intro _ _ e; cases e) ?_) | (refine A.take 5 rfl (by kernel_rfl) (by intro _ _ e; cases e) ?_)
  refine A.one 6 rfl (by kernel_rfl) ?_
  refine W.mapUp pipeK intK (fun es1 c1 m1 => ?_)
  refine A.hard (by rfl) ?_
  refine Any.done (by kernel_rfl) ?_
  repeat (first | refine hS.seq ?_ | refine hS.regionW ?_ | refine W.pop ?_ | refine W.yes ?_ | refine W.no ?_ | refine W.box (fun _ _ => ?_) | refine W.alloc (fun _ _ => ?_) | refine W.store ?_ | refine W.bs (fun _ _ => ?_) | refine W.fn hS (fun _ _ => ?_) | refine WL.nil ?_ | refine R.condT hS ?_ | refine R.condF hS ?_ | refine hS.skip ?_ | refine hS.block ?_ | refine hS.inBlock ?_ | refine R.ret hS ?_ | refine R.fin hS ?_ | refine R.begin hS ?_ | refine R.endRound hS ?_ | refine R.retRound hS ?_ | refine R.retC hS ?_ | refine R.endRangeDone hS ?_ | refine R.endRangeRet hS ?_)
  refine hc _ _ ⟨rfl, FrF.mk2 xh fr7, Ext0.out, s', ?_, ⟨HGC.out, OwnC.out, ?_, e1.out, ⟨eh, ch, HGC.out, kh2⟩, OwnC.out, ⟨es1, c1, HGC.out, m1.out⟩, OwnC.out, f.ne, f.new.1, ?_, f.new.2.2⟩⟩
  · exact hb7.imp id fun ⟨q, h1, h2⟩ => ⟨q, h1, fresh_of h2 xh⟩
  · rw [List.map_append]
    exact SlwC.out
  · exact new_of hb7 f.new.2.1 xh0
end Go.Proofs.YtankmjkogcbnfaaDoor
/-
  fix.laid: the pipes of a net.
-/
namespace Go.Proofs.YtankmjkogcbnfaaDoor
open Go Go.SL Go.Conc
def srcS : Spot := ⟨-1, false, false⟩
def endS : Spot := ⟨-2, false, false⟩
def comeS (i : Int) : Spot := ⟨i, true, false⟩
def goS (i : Int) : Spot := ⟨i, false, true⟩
/-- The pipes of a thing, and what they may hold. -/
def thP (w r : Int) (x : Thing) (i : Nat) : List (Pipe × Int) :=
  [(⟨srcS, comeS i, -1⟩, w * x.weight), (⟨comeS i, goS i, -1⟩, r * x.bears)] ++ if x.ground then [(⟨goS i, endS, -1⟩, r * x.bears)] else []
def tiP (r : Int) (t : Tie) (k : Nat) : Pipe × Int := (⟨goS t.frm, comeS t.to, k⟩, r * t.most)
def laidT (w r : Int) (l : List Thing) : List (Pipe × Int) := l.zipIdx.flatMap fun x => thP w r x.1 x.2
def laidL (w r : Int) (l : List Thing) (ts : List Tie) : List (Pipe × Int) := laidT w r l ++ ts.zipIdx.map fun t => tiP r t.1 t.2
def mostOf (L : List (Pipe × Int)) : Pipe → Option Int := L.foldl (fun f x => updF f x.1 x.2) (fun _ => none)
theorem mostOf_snoc (L : List (Pipe × Int)) (x : Pipe × Int) : mostOf (L ++ [x]) = updF (mostOf L) x.1 x.2 := by simp [mostOf]
theorem mostOf_app (L M : List (Pipe × Int)) : mostOf (L ++ M) = M.foldl (fun f x => updF f x.1 x.2) (mostOf L) := by simp [mostOf]
theorem thP_len (w r : Int) (x : Thing) (i : Nat) : (thP w r x i).length ≤ 3 := by unfold thP; split <;> simp
theorem laidT_len (w r : Int) (l : List Thing) : (laidT w r l).length ≤ 3 * l.length := by
  unfold laidT
  have : ∀ (l : List Thing) (k : Nat), ((l.zipIdx k).flatMap fun x => thP w r x.1 x.2).length ≤ 3 * l.length := by
    intro l
    induction l with
    | nil => simp
    | cons x l ih =>
      intro k
      simp only [List.zipIdx_cons, List.flatMap_cons, List.length_append, List.length_cons]
      have := thP_len w r x k
      have := ih (k + 1)
      omega
  exact this l 0
theorem laidT_snoc (w r : Int) (l : List Thing) {i : Nat} (hi : i < l.length) : laidT w r (l.take (i + 1)) = laidT w r (l.take i) ++ thP w r l[i] i := by
  unfold laidT
  rw [List.take_succ_eq_append_getElem hi, List.zipIdx_append, List.flatMap_append]
  congr 1
  simp [Nat.min_eq_left (Nat.le_of_lt hi)]
theorem laidTi_snoc (r : Int) (l : List Tie) {i : Nat} (hi : i < l.length) : ((l.take (i + 1)).zipIdx.map fun t => tiP r t.1 t.2) = ((l.take i).zipIdx.map fun t => tiP r t.1 t.2) ++ [tiP r l[i] i] := by
  rw [List.take_succ_eq_append_getElem hi, List.zipIdx_append, List.map_append]
  congr 1
  simp [Nat.min_eq_left (Nat.le_of_lt hi)]
attribute [local irreducible] putE ofL Look Nth Ev HG Own SubL Wr Sgl EvL LH.upd WL OpS Any Con PopW Pop
theorem c81 {l : List Thing} {ts : List Tie} {v w' : Value} {w r : Int} {h : LH} [sv : SingleC v] [sw : SingleC w'] [hs : SlC h 4 v (l.map Thing.c)] [hw : SlC h 3 w' (ts.map Tie.c)] [g0 : HgAt h 0 (.cells (List.toArray [.int .i64 (-1), .bool false, .bool false]) 206 (0, 0))] [g1 : HgAt h 1 (.cells (List.toArray [.int .i64 (-2), .bool false, .bool false]) 206 (0, 0))]
    (hl : l.length ≤ 1000) (ht : ts.length ≤ 1000) (hwx : ∀ x ∈ l, NoW (w * x.weight)) (hrb : ∀ x ∈ l, NoW (r * x.bears)) (hrm : ∀ t ∈ ts, NoW (r * t.most)) :
    Con Tryd.prog 81 [.agg (List.toArray [v, w']), .int .i64 w, .int .i64 r] h (fun rr h' => Ext h h' ∧ ∃ p sl rh rm, rr = .pointer (some ⟨p, 0, none⟩) ∧ FlowAt h h' p sl rh rm ((laidL w r l ts).map Prod.fst) (fun _ => none) (mostOf (laidL w r l ts))) := by
  have hs' : SlAt h 4 v (l.map Thing.c) := ⟨hs.out⟩
  have hw' : SlAt h 3 w' (ts.map Tie.c) := ⟨hw.out⟩
  refine Con.intro (m := 3) Tryd.func81 rfl Tryd.ntmps81 rfl (by decide) ?_
  intro main S hS c cs hc
  repeat (first | refine hS.seq ?_ | refine hS.regionW ?_ | refine W.pop ?_ | refine W.yes ?_ | refine W.no ?_ | refine W.box (fun _ _ => ?_) | refine W.alloc (fun _ _ => ?_) | refine W.store ?_ | refine W.bs (fun _ _ => ?_) | refine W.fn hS (fun _ _ => ?_) | refine WL.nil ?_ | refine R.condT hS ?_ | refine R.condF hS ?_ | refine hS.skip ?_ | refine hS.block ?_ | refine hS.inBlock ?_ | refine R.ret hS ?_ | refine R.fin hS ?_ | refine R.begin hS ?_ | refine R.endRound hS ?_ | refine R.retRound hS ?_ | refine R.retC hS ?_ | refine R.endRangeDone hS ?_ | refine R.endRangeRet hS ?_)
  rename_i q3 f3
  refine W.makeMap (fun rh hrh => ?_)
  repeat (first | refine hS.seq ?_ | refine hS.regionW ?_ | refine W.pop ?_ | refine W.yes ?_ | refine W.no ?_ | refine W.box (fun _ _ => ?_) | refine W.alloc (fun _ _ => ?_) | refine W.store ?_ | refine W.bs (fun _ _ => ?_) | refine W.fn hS (fun _ _ => ?_) | refine WL.nil ?_ | refine R.condT hS ?_ | refine R.condF hS ?_ | refine hS.skip ?_ | refine hS.block ?_ | refine hS.inBlock ?_ | refine R.ret hS ?_ | refine R.fin hS ?_ | refine R.begin hS ?_ | refine R.endRound hS ?_ | refine R.retRound hS ?_ | refine R.retC hS ?_ | refine R.endRangeDone hS ?_ | refine R.endRangeRet hS ?_)
  refine W.makeMap (fun rm hrm' => ?_)
  repeat (first | refine hS.seq ?_ | refine hS.regionW ?_ | refine W.pop ?_ | refine W.yes ?_ | refine W.no ?_ | refine W.box (fun _ _ => ?_) | refine W.alloc (fun _ _ => ?_) | refine W.store ?_ | refine W.bs (fun _ _ => ?_) | refine W.fn hS (fun _ _ => ?_) | refine WL.nil ?_ | refine R.condT hS ?_ | refine R.condF hS ?_ | refine hS.skip ?_ | refine hS.block ?_ | refine hS.inBlock ?_ | refine R.ret hS ?_ | refine R.fin hS ?_ | refine R.begin hS ?_ | refine R.endRound hS ?_ | refine R.retRound hS ?_ | refine R.retC hS ?_ | refine R.endRangeDone hS ?_ | refine R.endRangeRet hS ?_)
  rename_i p fp
  have z0 : HgAt h 0 _ := g0
  refine hS.loop ?_
  have n3p : NeB q3 p := inferInstance
  have n3m : NeB q3 rm := inferInstance
  refine loop_ind (fun (i : Nat) => l.length - i) (fun i E h' => i ≤ l.length ∧ LookC E 1 (.int .i64 w) ∧ LookC E 2 (.int .i64 r) ∧ LookC E 3 (.pointer (some ⟨q3, 0, none⟩)) ∧ LookC E 7 (.pointer (some ⟨p, 0, none⟩)) ∧ LookC E 17 v ∧ LookC E 18 (.int .i64 l.length) ∧ LookC E 19 (.int .i64 (i : Nat)) ∧ Ext0 h h' ∧ HGC h' q3 (.cells (List.toArray [v, w']) 44 (0, 0)) ∧
    ∃ sl, NbC sl q3 ∧ FlowAt h h' p sl rh rm ((laidT w r (l.take i)).map Prod.fst) (fun _ => none) (mostOf (laidT w r (l.take i)))) ?_ 0 _ _ ⟨Nat.zero_le _, inferInstance, inferInstance, inferInstance, inferInstance, inferInstance, inferInstance, inferInstance, inferInstance, inferInstance, .slice none 0 0, ⟨by simp [blkOf]⟩, ?_⟩
  rotate_left
  · have k1 : Fresh0 h p := inferInstance
    have k2 : Fresh0 h rm := inferInstance
    have k3 : Fresh0 h rh := inferInstance
    have k4 : NeB rh rm := inferInstance
    exact ⟨HGC.out, OwnC.out, ⟨by simp [laidT], .inl ⟨rfl, by simp [laidT]⟩⟩, by simp [blkOf], ⟨_, _, HGC.out, MapI.nil⟩, OwnC.out, ⟨_, _, HGC.out, by simpa [laidT, mostOf] using MapI.nil⟩, OwnC.out, k4.out, k1.out, fun b hb => by simp [blkOf] at hb, k3.out, k2.out⟩
  rintro i E h' ⟨hi, l1, l2, l3, l7, l17, l18, l19, hx, g3, sl, nb3, fl⟩ ih
  have hlen := laidT_len w r (l.take i)
  by_cases hlt : i < l.length
  · have ix : IxC l i l[i] := ⟨by simp [hlt]⟩
    have hmem : l[i] ∈ l := List.getElem_mem hlt
    have t1 : IsC (decide ((i : Int) < (l.length : Int))) true := ⟨by simp [hlt]⟩
    have nw : NoW ((i : Int) + 1) := NoW.of (by omega) (by omega)
    have nwx := hwx _ hmem
    have nrb := hrb _ hmem
    have gp : HGC h' p _ := ⟨fl.hp⟩
    obtain ⟨em, cm, km1, km2⟩ := fl.hm
    have gm : HGC h' rm (.map em cm) := ⟨km1⟩
    have sw0 : SlwC h' 7 sl _ := ⟨fl.w⟩
    have dn9 : DomC h' p := inferInstance
    repeat (first | refine hS.seq ?_ | refine hS.regionW ?_ | refine W.pop ?_ | refine W.yes ?_ | refine W.no ?_ | refine W.box (fun _ _ => ?_) | refine W.alloc (fun _ _ => ?_) | refine W.store ?_ | refine W.bs (fun _ _ => ?_) | refine W.fn hS (fun _ _ => ?_) | refine WL.nil ?_ | refine R.condT hS ?_ | refine R.condF hS ?_ | refine hS.skip ?_ | refine hS.block ?_ | refine hS.inBlock ?_ | refine R.ret hS ?_ | refine R.fin hS ?_ | refine R.begin hS ?_ | refine R.endRound hS ?_ | refine R.retRound hS ?_ | refine R.retC hS ?_ | refine R.endRangeDone hS ?_ | refine R.endRangeRet hS ?_)
    rename_i q9 f9
    have n9p : NeB q9 p := inferInstance
    have n9m : NeB q9 rm := inferInstance
    have nb9 : NbC sl q9 := inferInstance
    clear gp gm sw0
    refine hS.regionA mixed [8] ?_
    first | (refine A.takeM 0 rfl (by kernel_rfl) (by intro _ _ e; cases e) ?_) | (refine A.take 0 rfl (by kernel_rfl) (by intro _ _ e; cases e) ?_)
    refine A.take 1 rfl (by kernel_rfl) (by intro _ _ e; cases e) ?_
    first | (refine A.takeM 2 rfl (by kernel_rfl) (by intro _ _ e; cases e) ?_) | (refine A.take 2 rfl (by kernel_rfl) (by intro _ _ e; cases e) ?_)
    first | (refine A.takeM 4 rfl (by kernel_rfl) (by intro _ _ e; cases e) ?_) | (refine A.take 4 rfl (by kernel_rfl) (by intro _ _ e; cases e) ?_)
    refine A.take 5 rfl (by kernel_rfl) (by intro _ _ e; cases e) ?_
    refine A.take 6 rfl (by kernel_rfl) (by intro _ _ e; cases e) ?_
    first | (refine A.takeM 7 rfl (by kernel_rfl) (by intro _ _ e; cases e) ?_) | (refine A.take 7 rfl (by kernel_rfl) (by intro _ _ e; cases e) ?_)
    refine A.one 3 rfl (by kernel_rfl) ?_
    first | refine W.pop ?_ | refine W.fn hS (fun _ _ => ?_) | refine W.bs (fun _ _ => ?_) | refine W.box (fun _ _ => ?_) | refine W.alloc (fun _ _ => ?_) | refine W.store ?_
    refine A.soft ?_
    refine A.one 8 rfl (by kernel_rfl) ?_
    refine W.call hS (c120 (fl.ext Ext0.out) Ext0.out (by simp at hlen ⊢; omega)) (fun r1 h1 hr1 => ?_)
    obtain ⟨rfl, fr1, x1, sl1, hb1, fl1⟩ := hr1
    have e1 : Ext0 h h1 := ⟨x1⟩
    have ya1 := fr1.hg (b := q3)
    have yb1 := fr1.hg (b := q9)
    have yc1 : NbC sl1 q3 := nb_of hb1
    have yd1 : NbC sl1 q9 := nb_of hb1
    refine A.hard (by rfl) ?_
    refine Any.done (by kernel_rfl) ?_
    repeat (first | refine hS.seq ?_ | refine hS.regionW ?_ | refine W.pop ?_ | refine W.yes ?_ | refine W.no ?_ | refine W.box (fun _ _ => ?_) | refine W.alloc (fun _ _ => ?_) | refine W.store ?_ | refine W.bs (fun _ _ => ?_) | refine W.fn hS (fun _ _ => ?_) | refine WL.nil ?_ | refine R.condT hS ?_ | refine R.condF hS ?_ | refine hS.skip ?_ | refine hS.block ?_ | refine hS.inBlock ?_ | refine R.ret hS ?_ | refine R.fin hS ?_ | refine R.begin hS ?_ | refine R.endRound hS ?_ | refine R.retRound hS ?_ | refine R.retC hS ?_ | refine R.endRangeDone hS ?_ | refine R.endRangeRet hS ?_)
    refine hS.regionA mixed [9] ?_
    first | (refine A.takeM 0 rfl (by kernel_rfl) (by intro _ _ e; cases e) ?_) | (refine A.take 0 rfl (by kernel_rfl) (by intro _ _ e; cases e) ?_)
    first | (refine A.takeM 1 rfl (by kernel_rfl) (by intro _ _ e; cases e) ?_) | (refine A.take 1 rfl (by kernel_rfl) (by intro _ _ e; cases e) ?_)
    first | (refine A.takeM 3 rfl (by kernel_rfl) (by intro _ _ e; cases e) ?_) | (refine A.take 3 rfl (by kernel_rfl) (by intro _ _ e; cases e) ?_)
    first | (refine A.takeM 5 rfl (by kernel_rfl) (by intro _ _ e; cases e) ?_) | (refine A.take 5 rfl (by kernel_rfl) (by intro _ _ e; cases e) ?_)
    refine A.take 6 rfl (by kernel_rfl) (by intro _ _ e; cases e) ?_
    refine A.take 7 rfl (by kernel_rfl) (by intro _ _ e; cases e) ?_
    first | (refine A.takeM 8 rfl (by kernel_rfl) (by intro _ _ e; cases e) ?_) | (refine A.take 8 rfl (by kernel_rfl) (by intro _ _ e; cases e) ?_)
    refine A.one 2 rfl (by kernel_rfl) ?_
    first | refine W.pop ?_ | refine W.fn hS (fun _ _ => ?_) | refine W.bs (fun _ _ => ?_) | refine W.box (fun _ _ => ?_) | refine W.alloc (fun _ _ => ?_) | refine W.store ?_
    refine A.soft ?_
    refine A.one 4 rfl (by kernel_rfl) ?_
    first | refine W.pop ?_ | refine W.fn hS (fun _ _ => ?_) | refine W.bs (fun _ _ => ?_) | refine W.box (fun _ _ => ?_) | refine W.alloc (fun _ _ => ?_) | refine W.store ?_
    refine A.soft ?_
    refine A.one 9 rfl (by kernel_rfl) ?_
    refine W.call hS (c120 (fl1.ext Ext0.out) Ext0.out (by simp at hlen ⊢; omega)) (fun r2 h2 hr2 => ?_)
    obtain ⟨rfl, fr2, x2, sl2, hb2, fl2⟩ := hr2
    have e2 : Ext0 h h2 := ⟨x2⟩
    have ya2 := fr2.hg (b := q3)
    have yb2 := fr2.hg (b := q9)
    have yc2 : NbC sl2 q3 := nb_of hb2
    have yd2 : NbC sl2 q9 := nb_of hb2
    refine A.hard (by rfl) ?_
    refine Any.done (by kernel_rfl) ?_
    repeat (first | refine hS.seq ?_ | refine hS.regionW ?_ | refine W.pop ?_ | refine W.yes ?_ | refine W.no ?_ | refine W.box (fun _ _ => ?_) | refine W.alloc (fun _ _ => ?_) | refine W.store ?_ | refine W.bs (fun _ _ => ?_) | refine W.fn hS (fun _ _ => ?_) | refine WL.nil ?_ | refine R.condT hS ?_ | refine R.condF hS ?_ | refine hS.skip ?_ | refine hS.block ?_ | refine hS.inBlock ?_ | refine R.ret hS ?_ | refine R.fin hS ?_ | refine R.begin hS ?_ | refine R.endRound hS ?_ | refine R.retRound hS ?_ | refine R.retC hS ?_ | refine R.endRangeDone hS ?_ | refine R.endRangeRet hS ?_)
    refine R.cond hS (fun hT => ?_) (fun hF => ?_)
    · have hT := hT.out
      repeat (first | refine hS.seq ?_ | refine hS.regionW ?_ | refine W.pop ?_ | refine W.yes ?_ | refine W.no ?_ | refine W.box (fun _ _ => ?_) | refine W.alloc (fun _ _ => ?_) | refine W.store ?_ | refine W.bs (fun _ _ => ?_) | refine W.fn hS (fun _ _ => ?_) | refine WL.nil ?_ | refine R.condT hS ?_ | refine R.condF hS ?_ | refine hS.skip ?_ | refine hS.block ?_ | refine hS.inBlock ?_ | refine R.ret hS ?_ | refine R.fin hS ?_ | refine R.begin hS ?_ | refine R.endRound hS ?_ | refine R.retRound hS ?_ | refine R.retC hS ?_ | refine R.endRangeDone hS ?_ | refine R.endRangeRet hS ?_)
      refine hS.regionA mixed [8] ?_
      first | (refine A.takeM 0 rfl (by kernel_rfl) (by intro _ _ e; cases e) ?_) | (refine A.take 0 rfl (by kernel_rfl) (by intro _ _ e; cases e) ?_)
      first | (refine A.takeM 1 rfl (by kernel_rfl) (by intro _ _ e; cases e) ?_) | (refine A.take 1 rfl (by kernel_rfl) (by intro _ _ e; cases e) ?_)
      refine A.take 3 rfl (by kernel_rfl) (by intro _ _ e; cases e) ?_
      first | (refine A.takeM 4 rfl (by kernel_rfl) (by intro _ _ e; cases e) ?_) | (refine A.take 4 rfl (by kernel_rfl) (by intro _ _ e; cases e) ?_)
      refine A.take 5 rfl (by kernel_rfl) (by intro _ _ e; cases e) ?_
      refine A.take 6 rfl (by kernel_rfl) (by intro _ _ e; cases e) ?_
      first | (refine A.takeM 7 rfl (by kernel_rfl) (by intro _ _ e; cases e) ?_) | (refine A.take 7 rfl (by kernel_rfl) (by intro _ _ e; cases e) ?_)
      refine A.one 2 rfl (by kernel_rfl) ?_
      first | refine W.pop ?_ | refine W.fn hS (fun _ _ => ?_) | refine W.bs (fun _ _ => ?_) | refine W.box (fun _ _ => ?_) | refine W.alloc (fun _ _ => ?_) | refine W.store ?_
      refine A.soft ?_
      refine A.one 8 rfl (by kernel_rfl) ?_
      refine W.call hS (c120 (fl2.ext Ext0.out) Ext0.out (by simp at hlen ⊢; omega)) (fun r3 h3 hr3 => ?_)
      obtain ⟨rfl, fr3, x3, sl3, hb3, fl3⟩ := hr3
      have e3 : Ext0 h h3 := ⟨x3⟩
      have ya3 := fr3.hg (b := q3)
      have yb3 := fr3.hg (b := q9)
      have yc3 : NbC sl3 q3 := nb_of hb3
      have yd3 : NbC sl3 q9 := nb_of hb3
      refine A.hard (by rfl) ?_
      refine Any.done (by kernel_rfl) ?_
      repeat (first | refine hS.seq ?_ | refine hS.regionW ?_ | refine W.pop ?_ | refine W.yes ?_ | refine W.no ?_ | refine W.box (fun _ _ => ?_) | refine W.alloc (fun _ _ => ?_) | refine W.store ?_ | refine W.bs (fun _ _ => ?_) | refine W.fn hS (fun _ _ => ?_) | refine WL.nil ?_ | refine R.condT hS ?_ | refine R.condF hS ?_ | refine hS.skip ?_ | refine hS.block ?_ | refine hS.inBlock ?_ | refine R.ret hS ?_ | refine R.fin hS ?_ | refine R.begin hS ?_ | refine R.endRound hS ?_ | refine R.retRound hS ?_ | refine R.retC hS ?_ | refine R.endRangeDone hS ?_ | refine R.endRangeRet hS ?_)
      refine hS.inLoop ?_
      refine ih (i + 1) _ _ (by omega) ⟨hlt, inferInstance, inferInstance, inferInstance, inferInstance, inferInstance, inferInstance, by have e : ((i + 1 : Nat) : Int) = (i : Int) + 1 := (by omega); rw [e]; infer_instance, inferInstance, inferInstance, sl3, yc3, ?_⟩
      rw [laidT_snoc w r l hlt, mostOf_app, List.map_append]
      have ee : (thP w r l[i] i) = [(⟨srcS, comeS i, -1⟩, w * l[i].weight), (⟨comeS i, goS i, -1⟩, r * l[i].bears), (⟨goS i, endS, -1⟩, r * l[i].bears)] := by simp [thP, hT]
      rw [ee]
      simpa [srcS, comeS, goS, endS] using fl3
    · have hF := hF.out
      repeat (first | refine hS.seq ?_ | refine hS.regionW ?_ | refine W.pop ?_ | refine W.yes ?_ | refine W.no ?_ | refine W.box (fun _ _ => ?_) | refine W.alloc (fun _ _ => ?_) | refine W.store ?_ | refine W.bs (fun _ _ => ?_) | refine W.fn hS (fun _ _ => ?_) | refine WL.nil ?_ | refine R.condT hS ?_ | refine R.condF hS ?_ | refine hS.skip ?_ | refine hS.block ?_ | refine hS.inBlock ?_ | refine R.ret hS ?_ | refine R.fin hS ?_ | refine R.begin hS ?_ | refine R.endRound hS ?_ | refine R.retRound hS ?_ | refine R.retC hS ?_ | refine R.endRangeDone hS ?_ | refine R.endRangeRet hS ?_)
      refine hS.inLoop ?_
      refine ih (i + 1) _ _ (by omega) ⟨hlt, inferInstance, inferInstance, inferInstance, inferInstance, inferInstance, inferInstance, by have e : ((i + 1 : Nat) : Int) = (i : Int) + 1 := (by omega); rw [e]; infer_instance, inferInstance, inferInstance, sl2, yc2, ?_⟩
      rw [laidT_snoc w r l hlt, mostOf_app, List.map_append]
      have ee : (thP w r l[i] i) = [(⟨srcS, comeS i, -1⟩, w * l[i].weight), (⟨comeS i, goS i, -1⟩, r * l[i].bears)] := by simp [thP, hF]
      rw [ee]
      simpa [srcS, comeS, goS, endS] using fl2
  · have t1 : IsC (decide ((i : Int) < (l.length : Int))) false := ⟨by simp; omega⟩
    have ei : i = l.length := by omega
    subst ei
    rw [List.take_length] at fl hlen
    repeat (first | refine hS.seq ?_ | refine hS.regionW ?_ | refine W.pop ?_ | refine W.yes ?_ | refine W.no ?_ | refine W.box (fun _ _ => ?_) | refine W.alloc (fun _ _ => ?_) | refine W.store ?_ | refine W.bs (fun _ _ => ?_) | refine W.fn hS (fun _ _ => ?_) | refine WL.nil ?_ | refine R.condT hS ?_ | refine R.condF hS ?_ | refine hS.skip ?_ | refine hS.block ?_ | refine hS.inBlock ?_ | refine R.ret hS ?_ | refine R.fin hS ?_ | refine R.begin hS ?_ | refine R.endRound hS ?_ | refine R.retRound hS ?_ | refine R.retC hS ?_ | refine R.endRangeDone hS ?_ | refine R.endRangeRet hS ?_)
    refine hS.exit rfl ?_
    repeat (first | refine hS.seq ?_ | refine hS.regionW ?_ | refine W.pop ?_ | refine W.yes ?_ | refine W.no ?_ | refine W.box (fun _ _ => ?_) | refine W.alloc (fun _ _ => ?_) | refine W.store ?_ | refine W.bs (fun _ _ => ?_) | refine W.fn hS (fun _ _ => ?_) | refine WL.nil ?_ | refine R.condT hS ?_ | refine R.condF hS ?_ | refine hS.skip ?_ | refine hS.block ?_ | refine hS.inBlock ?_ | refine R.ret hS ?_ | refine R.fin hS ?_ | refine R.begin hS ?_ | refine R.endRound hS ?_ | refine R.retRound hS ?_ | refine R.retC hS ?_ | refine R.endRangeDone hS ?_ | refine R.endRangeRet hS ?_)
    refine hS.loop ?_
    refine loop_ind (fun (k : Nat) => ts.length - k) (fun k E h' => k ≤ ts.length ∧ LookC E 2 (.int .i64 r) ∧ LookC E 3 (.pointer (some ⟨q3, 0, none⟩)) ∧ LookC E 7 (.pointer (some ⟨p, 0, none⟩)) ∧ LookC E 56 w' ∧ LookC E 57 (.int .i64 ts.length) ∧ LookC E 58 (.int .i64 (k : Nat)) ∧ Ext0 h h' ∧ HGC h' q3 (.cells (List.toArray [v, w']) 44 (0, 0)) ∧
      ∃ sl, NbC sl q3 ∧ FlowAt h h' p sl rh rm ((laidT w r l ++ (ts.take k).zipIdx.map fun t => tiP r t.1 t.2).map Prod.fst) (fun _ => none) (mostOf (laidT w r l ++ (ts.take k).zipIdx.map fun t => tiP r t.1 t.2))) ?_ 0 _ _ ⟨Nat.zero_le _, inferInstance, inferInstance, inferInstance, inferInstance, inferInstance, inferInstance, inferInstance, inferInstance, sl, nb3, by simpa using fl⟩
    clear fl nb3 ih l17 l18 l19 g3 hx
    rintro k E h' ⟨hi, l2, l3, l7, l56, l57, l58, hx, g3, sl, nb3, fl⟩ ih
    by_cases hlt : k < ts.length
    · have ix : IxC ts k ts[k] := ⟨by simp [hlt]⟩
      have hmem : ts[k] ∈ ts := List.getElem_mem hlt
      have t1 : IsC (decide ((k : Int) < (ts.length : Int))) true := ⟨by simp [hlt]⟩
      have nw : NoW ((k : Int) + 1) := NoW.of (by omega) (by omega)
      have nrm := hrm _ hmem
      have gp : HGC h' p _ := ⟨fl.hp⟩
      obtain ⟨em, cm, km1, km2⟩ := fl.hm
      have gm : HGC h' rm (.map em cm) := ⟨km1⟩
      have sw0 : SlwC h' 7 sl _ := ⟨fl.w⟩
      repeat (first | refine hS.seq ?_ | refine hS.regionW ?_ | refine W.pop ?_ | refine W.yes ?_ | refine W.no ?_ | refine W.box (fun _ _ => ?_) | refine W.alloc (fun _ _ => ?_) | refine W.store ?_ | refine W.bs (fun _ _ => ?_) | refine W.fn hS (fun _ _ => ?_) | refine WL.nil ?_ | refine R.condT hS ?_ | refine R.condF hS ?_ | refine hS.skip ?_ | refine hS.block ?_ | refine hS.inBlock ?_ | refine R.ret hS ?_ | refine R.fin hS ?_ | refine R.begin hS ?_ | refine R.endRound hS ?_ | refine R.retRound hS ?_ | refine R.retC hS ?_ | refine R.endRangeDone hS ?_ | refine R.endRangeRet hS ?_)
      rename_i q9 f9
      have n9p : NeB q9 p := inferInstance
      have n9m : NeB q9 rm := inferInstance
      have nb9 : NbC sl q9 := inferInstance
      clear gp gm sw0
      refine hS.regionA mixed [12] ?_
      first | (refine A.takeM 0 rfl (by kernel_rfl) (by intro _ _ e; cases e) ?_) | (refine A.take 0 rfl (by kernel_rfl) (by intro _ _ e; cases e) ?_)
      refine A.take 1 rfl (by kernel_rfl) (by intro _ _ e; cases e) ?_
      refine A.take 2 rfl (by kernel_rfl) (by intro _ _ e; cases e) ?_
      refine A.take 4 rfl (by kernel_rfl) (by intro _ _ e; cases e) ?_
      refine A.take 5 rfl (by kernel_rfl) (by intro _ _ e; cases e) ?_
      first | (refine A.takeM 7 rfl (by kernel_rfl) (by intro _ _ e; cases e) ?_) | (refine A.take 7 rfl (by kernel_rfl) (by intro _ _ e; cases e) ?_)
      first | (refine A.takeM 8 rfl (by kernel_rfl) (by intro _ _ e; cases e) ?_) | (refine A.take 8 rfl (by kernel_rfl) (by intro _ _ e; cases e) ?_)
      refine A.take 9 rfl (by kernel_rfl) (by intro _ _ e; cases e) ?_
      refine A.take 10 rfl (by kernel_rfl) (by intro _ _ e; cases e) ?_
      first | (refine A.takeM 11 rfl (by kernel_rfl) (by intro _ _ e; cases e) ?_) | (refine A.take 11 rfl (by kernel_rfl) (by intro _ _ e; cases e) ?_)
      refine A.one 3 rfl (by kernel_rfl) ?_
      first | refine W.pop ?_ | refine W.fn hS (fun _ _ => ?_) | refine W.bs (fun _ _ => ?_) | refine W.box (fun _ _ => ?_) | refine W.alloc (fun _ _ => ?_) | refine W.store ?_
      refine A.soft ?_
      refine A.one 6 rfl (by kernel_rfl) ?_
      first | refine W.pop ?_ | refine W.fn hS (fun _ _ => ?_) | refine W.bs (fun _ _ => ?_) | refine W.box (fun _ _ => ?_) | refine W.alloc (fun _ _ => ?_) | refine W.store ?_
      refine A.soft ?_
      refine A.one 12 rfl (by kernel_rfl) ?_
      refine W.call hS (c120 (fl.ext Ext0.out) Ext0.out (by simp at hlen ⊢; omega)) (fun r1 h1 hr1 => ?_)
      obtain ⟨rfl, fr1, x1, sl1, hb1, fl1⟩ := hr1
      have e1 : Ext0 h h1 := ⟨x1⟩
      have ya1 := fr1.hg (b := q3)
      have yb1 := fr1.hg (b := q9)
      have yc1 : NbC sl1 q3 := nb_of hb1
      refine A.hard (by rfl) ?_
      refine Any.done (by kernel_rfl) ?_
      repeat (first | refine hS.seq ?_ | refine hS.regionW ?_ | refine W.pop ?_ | refine W.yes ?_ | refine W.no ?_ | refine W.box (fun _ _ => ?_) | refine W.alloc (fun _ _ => ?_) | refine W.store ?_ | refine W.bs (fun _ _ => ?_) | refine W.fn hS (fun _ _ => ?_) | refine WL.nil ?_ | refine R.condT hS ?_ | refine R.condF hS ?_ | refine hS.skip ?_ | refine hS.block ?_ | refine hS.inBlock ?_ | refine R.ret hS ?_ | refine R.fin hS ?_ | refine R.begin hS ?_ | refine R.endRound hS ?_ | refine R.retRound hS ?_ | refine R.retC hS ?_ | refine R.endRangeDone hS ?_ | refine R.endRangeRet hS ?_)
      refine hS.inLoop ?_
      refine ih (k + 1) _ _ (by omega) ⟨hlt, inferInstance, inferInstance, inferInstance, inferInstance, inferInstance, by have e : ((k + 1 : Nat) : Int) = (k : Int) + 1 := (by omega); rw [e]; infer_instance, inferInstance, inferInstance, sl1, yc1, ?_⟩
      rw [laidTi_snoc r ts hlt, ← List.append_assoc, mostOf_app, List.map_append]
      simpa [tiP, goS, comeS] using fl1
    · have t1 : IsC (decide ((k : Int) < (ts.length : Int))) false := ⟨by simp; omega⟩
      have ei : k = ts.length := by omega
      subst ei
      rw [List.take_length] at fl
      repeat (first | refine hS.seq ?_ | refine hS.regionW ?_ | refine W.pop ?_ | refine W.yes ?_ | refine W.no ?_ | refine W.box (fun _ _ => ?_) | refine W.alloc (fun _ _ => ?_) | refine W.store ?_ | refine W.bs (fun _ _ => ?_) | refine W.fn hS (fun _ _ => ?_) | refine WL.nil ?_ | refine R.condT hS ?_ | refine R.condF hS ?_ | refine hS.skip ?_ | refine hS.block ?_ | refine hS.inBlock ?_ | refine R.ret hS ?_ | refine R.fin hS ?_ | refine R.begin hS ?_ | refine R.endRound hS ?_ | refine R.retRound hS ?_ | refine R.retC hS ?_ | refine R.endRangeDone hS ?_ | refine R.endRangeRet hS ?_)
      refine hS.exit rfl ?_
      repeat (first | refine hS.seq ?_ | refine hS.regionW ?_ | refine W.pop ?_ | refine W.yes ?_ | refine W.no ?_ | refine W.box (fun _ _ => ?_) | refine W.alloc (fun _ _ => ?_) | refine W.store ?_ | refine W.bs (fun _ _ => ?_) | refine W.fn hS (fun _ _ => ?_) | refine WL.nil ?_ | refine R.condT hS ?_ | refine R.condF hS ?_ | refine hS.skip ?_ | refine hS.block ?_ | refine hS.inBlock ?_ | refine R.ret hS ?_ | refine R.fin hS ?_ | refine R.begin hS ?_ | refine R.endRound hS ?_ | refine R.retRound hS ?_ | refine R.retC hS ?_ | refine R.endRangeDone hS ?_ | refine R.endRangeRet hS ?_)
      exact hc _ _ ⟨Ext0.out, p, sl, rh, rm, rfl, fl⟩
end Go.Proofs.YtankmjkogcbnfaaDoor
namespace Go.Proofs.YtankmjkogcbnfaaDoor
open Go Go.SL

abbrev Step.leads (s : Step) : Spot := ⟨if s.back then s.p.frm.t else s.p.to.t, if s.back then s.p.frm.a else s.p.to.a, if s.back then s.p.frm.b else s.p.to.b⟩
abbrev Step.begins (s : Step) : Spot := ⟨if s.back then s.p.to.t else s.p.frm.t, if s.back then s.p.to.a else s.p.frm.a, if s.back then s.p.to.b else s.p.frm.b⟩
theorem Step.leads_eq (s : Step) : s.leads = if s.back then s.p.frm else s.p.to := by cases h : s.back <;> simp [Step.leads, h]
theorem Step.begins_eq (s : Step) : s.begins = if s.back then s.p.to else s.p.frm := by cases h : s.back <;> simp [Step.begins, h]

/-- What lies in a pipe, and what may. -/
def amt (f : Pipe → Option Int) (p : Pipe) : Int := (f p).getD 0
def stepsOf (has most : Pipe → Option Int) (x : Spot) (p : Pipe) : List Step :=
  (if p.frm = x ∧ amt most p - amt has p > 0 then [⟨p, false, amt most p - amt has p⟩] else []) ++ (if p.to = x ∧ amt has p > 0 then [⟨p, true, amt has p⟩] else [])
def stepsAt (has most : Pipe → Option Int) (ps : List Pipe) (x : Spot) : List Step := ps.flatMap (stepsOf has most x)

/-- Those of a list that lead to a spot that isn't seen yet. -/
def scan : List Step → List Spot → List Step
  | [], _ => []
  | s :: l, seen => if s.leads ∈ seen then scan l seen else s :: scan l (s.leads :: seen)
def bfs (st : Spot → List Step) : Nat → List Spot → List Spot → List Step
  | 0, _, _ => []
  | _ + 1, _, [] => []
  | n + 1, seen, x :: work => scan (st x) seen ++ bfs st n (((scan (st x) seen).map Step.leads).reverse ++ seen) (work ++ (scan (st x) seen).map Step.leads)
/-- What is still told, within one spot's steps. -/
def tailOf (st : Spot → List Step) (n : Nat) (l : List Step) (seen work : List Spot) : List Step :=
  scan l seen ++ bfs st n (((scan l seen).map Step.leads).reverse ++ seen) (work ++ (scan l seen).map Step.leads)
theorem tailOf_nil {st : Spot → List Step} {n : Nat} {seen work : List Spot} : tailOf st n [] seen work = bfs st n seen work := by simp [tailOf, scan]
theorem tailOf_seen {st : Spot → List Step} {n : Nat} {s : Step} {l : List Step} {seen work : List Spot} (h : s.leads ∈ seen) : tailOf st n (s :: l) seen work = tailOf st n l seen work := by simp [tailOf, scan, h]
theorem tailOf_new {st : Spot → List Step} {n : Nat} {s : Step} {l : List Step} {seen work : List Spot} (h : s.leads ∉ seen) : tailOf st n (s :: l) seen work = s :: tailOf st n l (s.leads :: seen) (work ++ [s.leads]) := by
  simp [tailOf, scan, h]
theorem bfs_succ {st : Spot → List Step} {n : Nat} {x : Spot} {seen work : List Spot} : bfs st (n + 1) seen (x :: work) = tailOf st n (st x) seen work := rfl
theorem bfs_done {st : Spot → List Step} {n : Nat} {seen : List Spot} : bfs st n seen [] = [] := by cases n <;> rfl

/-- The spots of pipes. -/
def spots (ps : List Pipe) : List Spot := ps.map (·.frm) ++ ps.map (·.to)
def unseen (ps : List Pipe) (seen : List Spot) : Nat := ((spots ps).filter (fun t => decide (t ∉ seen))).length
theorem unseen_cons {ps : List Pipe} {seen : List Spot} {t : Spot} (h1 : t ∈ spots ps) (h2 : t ∉ seen) : unseen ps (t :: seen) + 1 ≤ unseen ps seen := by
  unfold unseen
  generalize spots ps = l at h1
  induction l with
  | nil => cases h1
  | cons a l ih =>
    have mono : ∀ l : List Spot, (l.filter (fun x => decide (x ∉ t :: seen))).length ≤ (l.filter (fun x => decide (x ∉ seen))).length := by
      intro l
      induction l with
      | nil => simp
      | cons b l ih =>
        simp only [List.filter_cons, List.mem_cons, not_or]
        by_cases hb : b ∈ seen
        · simp only [hb, not_true_eq_false, and_false, decide_false, Bool.false_eq_true, if_false]
          simpa [not_or] using ih
        · by_cases hbt : b = t
          · simp only [hbt, not_true_eq_false, false_and, decide_false, Bool.false_eq_true, if_false, h2, not_false_eq_true, decide_true, if_true, List.length_cons]
            have : (l.filter (fun x => decide (¬ x = t ∧ x ∉ seen))).length ≤ (l.filter (fun x => decide (x ∉ seen))).length := by simpa [not_or] using ih
            omega
          · simp only [hb, hbt, not_false_eq_true, and_self, decide_true, if_true, List.length_cons]
            have : (l.filter (fun x => decide (¬ x = t ∧ x ∉ seen))).length ≤ (l.filter (fun x => decide (x ∉ seen))).length := by simpa [not_or] using ih
            omega
    rcases List.mem_cons.1 h1 with rfl | h1
    · have := mono l
      simp only [List.filter_cons, List.mem_cons, true_or, not_true_eq_false, decide_false, Bool.false_eq_true, if_false, h2, not_false_eq_true, decide_true, if_true, List.length_cons]
      simp only [List.mem_cons] at this
      omega
    · have := ih h1
      simp only [List.filter_cons]
      by_cases ha : a ∈ seen
      · simp only [List.mem_cons, ha, or_true, not_true_eq_false, decide_false, Bool.false_eq_true, if_false] at this ⊢
        exact this
      · by_cases hat : a = t
        · simp only [hat, List.mem_cons, true_or, not_true_eq_false, decide_false, Bool.false_eq_true, if_false, h2, not_false_eq_true, decide_true, if_true, List.length_cons] at this ⊢
          omega
        · simp only [List.mem_cons, ha, hat, or_self, not_false_eq_true, decide_true, if_true, List.length_cons] at this ⊢
          omega
theorem leads_spots {has most : Pipe → Option Int} {ps : List Pipe} {x : Spot} {s : Step} (h : s ∈ stepsAt has most ps x) : s.leads ∈ spots ps := by
  simp only [stepsAt, List.mem_flatMap] at h
  obtain ⟨p, hp, h⟩ := h
  simp only [stepsOf, List.mem_append] at h
  simp only [spots, List.mem_append, List.mem_map]
  rcases h with h | h
  · split at h
    · simp at h; subst h; exact .inr ⟨p, hp, by rw [Step.leads_eq]; rfl⟩
    · cases h
  · split at h
    · simp at h; subst h; exact .inl ⟨p, hp, by rw [Step.leads_eq]; rfl⟩
    · cases h
theorem stepsAt_snoc {has most : Pipe → Option Int} {ps : List Pipe} {x : Spot} {i : Nat} (hi : i < ps.length) : stepsAt has most (ps.take (i + 1)) x = stepsAt has most (ps.take i) x ++ stepsOf has most x ps[i] := by
  unfold stepsAt
  rw [List.take_succ_eq_append_getElem hi, List.flatMap_append]; simp
theorem stepsAt_split {has most : Pipe → Option Int} {ps : List Pipe} {x : Spot} {i : Nat} (hi : i < ps.length) : stepsAt has most ps x = stepsAt has most (ps.take i) x ++ (stepsOf has most x ps[i] ++ stepsAt has most (ps.drop (i + 1)) x) := by
  unfold stepsAt
  conv => lhs; rw [← List.take_append_drop i ps, List.drop_eq_getElem_cons hi]
  rw [List.flatMap_append, List.flatMap_cons]
end Go.Proofs.YtankmjkogcbnfaaDoor
