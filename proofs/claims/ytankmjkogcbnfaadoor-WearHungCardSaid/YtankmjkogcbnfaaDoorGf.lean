/-
  thatchlaw07.lives.
-/
import Derived.Test.YtankmjkogcbnfaaDoorGe
namespace Go.Proofs.YtankmjkogcbnfaaDoor
open Go Go.SL Go.Conc
attribute [local irreducible] putE ofL Look Nth Ev HG Own SubL Wr Sgl EvL LH.upd WL OpS Any Con PopW Pop
def turnBad (a b c d e f g k : Int) : Bool := (leftV a b c d g k == 0) && decide (w64 (w64 (w64 (c - a) * w64 (g - e)) + w64 (w64 (d - b) * w64 (k - f))) < 0)
def edgeOk (l : List Pt) (i : Nat) : Bool :=
  l.all (fun p => !decide (leftAt l i p < 0)) &&
    !turnBad (Pt.at l ((i + l.length - 1) % l.length)).u (Pt.at l ((i + l.length - 1) % l.length)).v (Pt.at l (((i + l.length - 1) % l.length + 1) % l.length)).u (Pt.at l (((i + l.length - 1) % l.length + 1) % l.length)).v
      (Pt.at l i).u (Pt.at l i).v (Pt.at l ((i + 1) % l.length)).u (Pt.at l ((i + 1) % l.length)).v
def someV (l : List Pt) (i : Nat) : Bool := (List.range i).any fun j => l.any fun p => decide (leftAt l j p > 0)
def outlineE (l : List Pt) : Int :=
  if ¬ (3 ≤ l.length ∧ l.length ≤ 12) ∨ l.any (fun p => !placedV p) = true then 1
  else if (List.range l.length).any (fun i => decide (Pt.at l i ∈ l.take i)) then 6
  else if (List.range l.length).all (edgeOk l) && someV l l.length then 0 else 9

theorem take_at {l : List Pt} {k : Nat} (hk : k < l.length) : l.take (k + 1) = l.take k ++ [Pt.at l k] := by
  rw [List.take_succ_eq_append_getElem hk]; simp [Pt.at, hk]
instance c67 {l : List Pt} {vo : Value} {h : LH} [so : SingleC vo] [hvo : SlC h 2 vo (l.map Pt.c)] [hn : GtC l.length 4611686018427387904] : FnC Tryd.prog 67 [vo] h (.int .i64 (outlineE l)) := by
  have hvo' : SlAt h 2 vo (l.map Pt.c) := ⟨hvo.out⟩
  have hn := hn.out
  refine ⟨Con.intro (m := 1) Tryd.func67 rfl Tryd.ntmps67 rfl (by decide) ?_⟩
  intro main S hS c cs hc
  repeat (first | refine hS.seq ?_ | refine hS.regionW ?_ | refine W.pop ?_ | refine W.yes ?_ | refine W.no ?_ | refine W.box (fun _ _ => ?_) | refine W.alloc (fun _ _ => ?_) | refine W.store ?_ | refine W.bs (fun _ _ => ?_) | refine W.fn hS (fun _ _ => ?_) | refine WL.nil ?_ | refine R.condT hS ?_ | refine R.condF hS ?_ | refine hS.skip ?_ | refine hS.block ?_ | refine hS.inBlock ?_ | refine R.ret hS ?_ | refine R.fin hS ?_ | refine R.begin hS ?_ | refine R.endRound hS ?_ | refine R.retRound hS ?_ | refine R.retC hS ?_ | refine R.endRangeDone hS ?_ | refine R.endRangeRet hS ?_)
  rename_i p1 f1 p2 f2 h1 x1
  refine W.split (fun hT => ?_) (fun hF => ?_)
  · have e : ¬ (3 ≤ l.length ∧ l.length ≤ 12) := by have := hT.out; simp at this; omega
    repeat (first | refine hS.seq ?_ | refine hS.regionW ?_ | refine W.pop ?_ | refine W.yes ?_ | refine W.no ?_ | refine W.box (fun _ _ => ?_) | refine W.alloc (fun _ _ => ?_) | refine W.store ?_ | refine W.bs (fun _ _ => ?_) | refine W.fn hS (fun _ _ => ?_) | refine WL.nil ?_ | refine R.condT hS ?_ | refine R.condF hS ?_ | refine hS.skip ?_ | refine hS.block ?_ | refine hS.inBlock ?_ | refine R.ret hS ?_ | refine R.fin hS ?_ | refine R.begin hS ?_ | refine R.endRound hS ?_ | refine R.retRound hS ?_ | refine R.retC hS ?_ | refine R.endRangeDone hS ?_ | refine R.endRangeRet hS ?_)
    refine hc _ _ ⟨?_, Ext0.out⟩
    simp only [resOf, outlineE, if_pos (Or.inl e)]
  · have e : 3 ≤ l.length ∧ l.length ≤ 12 := by have := hF.out; simp at this; omega
    repeat (first | refine hS.seq ?_ | refine hS.regionW ?_ | refine W.pop ?_ | refine W.yes ?_ | refine W.no ?_ | refine W.box (fun _ _ => ?_) | refine W.alloc (fun _ _ => ?_) | refine W.store ?_ | refine W.bs (fun _ _ => ?_) | refine W.fn hS (fun _ _ => ?_) | refine WL.nil ?_ | refine R.condT hS ?_ | refine R.condF hS ?_ | refine hS.skip ?_ | refine hS.block ?_ | refine hS.inBlock ?_ | refine R.ret hS ?_ | refine R.fin hS ?_ | refine R.begin hS ?_ | refine R.endRound hS ?_ | refine R.retRound hS ?_ | refine R.retC hS ?_ | refine R.endRangeDone hS ?_ | refine R.endRangeRet hS ?_)
    refine W.fn hS (hc := c110 (g := 111) (cap := []) (l := l) (toC := Pt.c) (p := fun x => !placedV x) (Nat.le_of_lt hn) (fun x _ h2 _ => c111 (h := h2) (a := x.u) (b := x.v))) (fun _ _ => ?_)
    repeat (first | refine hS.seq ?_ | refine hS.regionW ?_ | refine W.pop ?_ | refine W.yes ?_ | refine W.no ?_ | refine W.box (fun _ _ => ?_) | refine W.alloc (fun _ _ => ?_) | refine W.store ?_ | refine W.bs (fun _ _ => ?_) | refine W.fn hS (fun _ _ => ?_) | refine WL.nil ?_ | refine R.condT hS ?_ | refine R.condF hS ?_ | refine hS.skip ?_ | refine hS.block ?_ | refine hS.inBlock ?_ | refine R.ret hS ?_ | refine R.fin hS ?_ | refine R.begin hS ?_ | refine R.endRound hS ?_ | refine R.retRound hS ?_ | refine R.retC hS ?_ | refine R.endRangeDone hS ?_ | refine R.endRangeRet hS ?_)
    refine R.cond hS (fun hT => ?_) (fun hF => ?_)
    · repeat (first | refine hS.seq ?_ | refine hS.regionW ?_ | refine W.pop ?_ | refine W.yes ?_ | refine W.no ?_ | refine W.box (fun _ _ => ?_) | refine W.alloc (fun _ _ => ?_) | refine W.store ?_ | refine W.bs (fun _ _ => ?_) | refine W.fn hS (fun _ _ => ?_) | refine WL.nil ?_ | refine R.condT hS ?_ | refine R.condF hS ?_ | refine hS.skip ?_ | refine hS.block ?_ | refine hS.inBlock ?_ | refine R.ret hS ?_ | refine R.fin hS ?_ | refine R.begin hS ?_ | refine R.endRound hS ?_ | refine R.retRound hS ?_ | refine R.retC hS ?_ | refine R.endRangeDone hS ?_ | refine R.endRangeRet hS ?_)
      refine hc _ _ ⟨?_, Ext0.out⟩
      simp only [resOf, outlineE, if_pos (Or.inr hT.out)]
    · repeat (first | refine hS.seq ?_ | refine hS.regionW ?_ | refine W.pop ?_ | refine W.yes ?_ | refine W.no ?_ | refine W.box (fun _ _ => ?_) | refine W.alloc (fun _ _ => ?_) | refine W.store ?_ | refine W.bs (fun _ _ => ?_) | refine W.fn hS (fun _ _ => ?_) | refine WL.nil ?_ | refine R.condT hS ?_ | refine R.condF hS ?_ | refine hS.skip ?_ | refine hS.block ?_ | refine hS.inBlock ?_ | refine R.ret hS ?_ | refine R.fin hS ?_ | refine R.begin hS ?_ | refine R.endRound hS ?_ | refine R.retRound hS ?_ | refine R.retC hS ?_ | refine R.endRangeDone hS ?_ | refine R.endRangeRet hS ?_)
      refine hS.loop ?_
      have hany := hF.out
      have z1 : Fresh0 h p1 := inferInstance
      have z2 : Fresh0 h p2 := inferInstance
      have n12 : NeB p1 p2 := inferInstance
      refine loop_ind (fun (i : Nat) => l.length - i) (fun i E h' => i ≤ l.length ∧ LookC E 1 (.pointer (some ⟨p1, 0, none⟩)) ∧ LookC E 2 (.pointer (some ⟨p2, 0, none⟩)) ∧ LookC E 19 vo ∧ LookC E 20 (.int .i64 l.length) ∧ LookC E 21 (.int .i64 (i : Nat)) ∧ Ext0 h h' ∧ HGC h' p1 (.cells (List.toArray [vo]) 22 (0, 0)) ∧
        HGC h' p2 (.cells (List.toArray [.int .i64 0]) 36 (0, 0)) ∧ OwnC h' p2 ∧ ∀ j, j < i → ¬ Pt.at l j ∈ l.take j) ?_ 0 _ _ ⟨Nat.zero_le _, inferInstance, inferInstance, inferInstance, inferInstance, inferInstance, inferInstance, inferInstance, inferInstance, inferInstance, fun j hj => by omega⟩
      rintro i E h' ⟨hi, l1, l2, l19, l20, l21, hx, g1, g2, o2, hq⟩ ih
      by_cases hlt : i < l.length
      · have ix := ix_at hlt
        have t1 : IsC (decide ((i : Int) < (l.length : Int))) true := ⟨by simp [hlt]⟩
        have nw : NoW ((i : Int) + 1) := NoW.of (by omega) (by omega)
        have lc : LeC i l.length := ⟨hi⟩
        have gt : GtC (l.take i).length 4611686018427387904 := ⟨by simp; omega⟩
        repeat (first | refine hS.seq ?_ | refine hS.regionW ?_ | refine W.pop ?_ | refine W.yes ?_ | refine W.no ?_ | refine W.box (fun _ _ => ?_) | refine W.alloc (fun _ _ => ?_) | refine W.store ?_ | refine W.bs (fun _ _ => ?_) | refine W.fn hS (fun _ _ => ?_) | refine WL.nil ?_ | refine R.condT hS ?_ | refine R.condF hS ?_ | refine hS.skip ?_ | refine hS.block ?_ | refine hS.inBlock ?_ | refine R.ret hS ?_ | refine R.fin hS ?_ | refine R.begin hS ?_ | refine R.endRound hS ?_ | refine R.retRound hS ?_ | refine R.retC hS ?_ | refine R.endRangeDone hS ?_ | refine R.endRangeRet hS ?_)
        refine hS.regionA mixed [] ?_
        refine A.take 0 rfl (by kernel_rfl) (by intro _ _ e; cases e) ?_
        refine A.take 1 rfl (by kernel_rfl) (by intro _ _ e; cases e) ?_
        refine A.take 2 rfl (by kernel_rfl) (by intro _ _ e; cases e) ?_
        refine A.take 3 rfl (by kernel_rfl) (by intro _ _ e; cases e) ?_
        refine A.one 4 rfl (by kernel_rfl) ?_
        first | refine W.pop ?_ | refine W.fn hS (fun _ _ => ?_) | refine W.bs (fun _ _ => ?_) | refine W.box (fun _ _ => ?_) | refine W.alloc (fun _ _ => ?_) | refine W.store ?_
        refine A.soft ?_
        refine Any.done (by kernel_rfl) ?_
        repeat (first | refine hS.seq ?_ | refine hS.regionW ?_ | refine W.pop ?_ | refine W.yes ?_ | refine W.no ?_ | refine W.box (fun _ _ => ?_) | refine W.alloc (fun _ _ => ?_) | refine W.store ?_ | refine W.bs (fun _ _ => ?_) | refine W.fn hS (fun _ _ => ?_) | refine WL.nil ?_ | refine R.condT hS ?_ | refine R.condF hS ?_ | refine hS.skip ?_ | refine hS.block ?_ | refine hS.inBlock ?_ | refine R.ret hS ?_ | refine R.fin hS ?_ | refine R.begin hS ?_ | refine R.endRound hS ?_ | refine R.retRound hS ?_ | refine R.retC hS ?_ | refine R.endRangeDone hS ?_ | refine R.endRangeRet hS ?_)
        refine R.cond hS (fun hT => ?_) (fun hF => ?_)
        · repeat (first | refine hS.seq ?_ | refine hS.regionW ?_ | refine W.pop ?_ | refine W.yes ?_ | refine W.no ?_ | refine W.box (fun _ _ => ?_) | refine W.alloc (fun _ _ => ?_) | refine W.store ?_ | refine W.bs (fun _ _ => ?_) | refine W.fn hS (fun _ _ => ?_) | refine WL.nil ?_ | refine R.condT hS ?_ | refine R.condF hS ?_ | refine hS.skip ?_ | refine hS.block ?_ | refine hS.inBlock ?_ | refine R.ret hS ?_ | refine R.fin hS ?_ | refine R.begin hS ?_ | refine R.endRound hS ?_ | refine R.retRound hS ?_ | refine R.retC hS ?_ | refine R.endRangeDone hS ?_ | refine R.endRangeRet hS ?_)
          refine hc _ _ ⟨?_, Ext0.out⟩
          have hm : (List.range l.length).any (fun i => decide (Pt.at l i ∈ l.take i)) = true := by
            rw [List.any_eq_true]
            exact ⟨i, by simpa using hlt, hT.out⟩
          have hno : ¬ (¬ (3 ≤ l.length ∧ l.length ≤ 12) ∨ l.any (fun p => !placedV p) = true) := by
            rintro (h | h)
            · exact h e
            · rw [hany] at h; cases h
          simp only [resOf, outlineE, if_neg hno, hm, if_true]
        · repeat (first | refine hS.seq ?_ | refine hS.regionW ?_ | refine W.pop ?_ | refine W.yes ?_ | refine W.no ?_ | refine W.box (fun _ _ => ?_) | refine W.alloc (fun _ _ => ?_) | refine W.store ?_ | refine W.bs (fun _ _ => ?_) | refine W.fn hS (fun _ _ => ?_) | refine WL.nil ?_ | refine R.condT hS ?_ | refine R.condF hS ?_ | refine hS.skip ?_ | refine hS.block ?_ | refine hS.inBlock ?_ | refine R.ret hS ?_ | refine R.fin hS ?_ | refine R.begin hS ?_ | refine R.endRound hS ?_ | refine R.retRound hS ?_ | refine R.retC hS ?_ | refine R.endRangeDone hS ?_ | refine R.endRangeRet hS ?_)
          refine hS.inLoop ?_
          refine ih (i + 1) _ _ (by omega) ⟨hlt, inferInstance, inferInstance, inferInstance, inferInstance, by have e : ((i + 1 : Nat) : Int) = (i : Int) + 1 := (by omega); rw [e]; infer_instance, inferInstance, inferInstance, inferInstance, inferInstance, ?_⟩
          intro j hj
          by_cases ej : j = i
          · subst ej; simpa [Pt.at, hlt] using hF.out
          · exact hq j (by omega)
      · have t1 : IsC (decide ((i : Int) < (l.length : Int))) false := ⟨by simp; omega⟩
        have ei : i = l.length := by omega
        subst ei
        repeat (first | refine hS.seq ?_ | refine hS.regionW ?_ | refine W.pop ?_ | refine W.yes ?_ | refine W.no ?_ | refine W.box (fun _ _ => ?_) | refine W.alloc (fun _ _ => ?_) | refine W.store ?_ | refine W.bs (fun _ _ => ?_) | refine W.fn hS (fun _ _ => ?_) | refine WL.nil ?_ | refine R.condT hS ?_ | refine R.condF hS ?_ | refine hS.skip ?_ | refine hS.block ?_ | refine hS.inBlock ?_ | refine R.ret hS ?_ | refine R.fin hS ?_ | refine R.begin hS ?_ | refine R.endRound hS ?_ | refine R.retRound hS ?_ | refine R.retC hS ?_ | refine R.endRangeDone hS ?_ | refine R.endRangeRet hS ?_)
        refine hS.exit rfl ?_
        have nw : NoW ((l.length : Int) - 1) := NoW.of (by omega) (by omega)
        have nn : NatC ((l.length : Int) - 1) (l.length - 1) := ⟨by omega⟩
        have ia : IxC l (l.length - 1) _ := ix_at (by omega)
        have ib : IxC l 0 _ := ix_at (by omega)
        repeat (first | refine hS.seq ?_ | refine hS.regionW ?_ | refine W.pop ?_ | refine W.yes ?_ | refine W.no ?_ | refine W.box (fun _ _ => ?_) | refine W.alloc (fun _ _ => ?_) | refine W.store ?_ | refine W.bs (fun _ _ => ?_) | refine W.fn hS (fun _ _ => ?_) | refine WL.nil ?_ | refine R.condT hS ?_ | refine R.condF hS ?_ | refine hS.skip ?_ | refine hS.block ?_ | refine hS.inBlock ?_ | refine R.ret hS ?_ | refine R.fin hS ?_ | refine R.begin hS ?_ | refine R.endRound hS ?_ | refine R.retRound hS ?_ | refine R.retC hS ?_ | refine R.endRangeDone hS ?_ | refine R.endRangeRet hS ?_)
        refine hS.regionA mixed [11] ?_
        refine A.take 0 rfl (by kernel_rfl) (by intro _ _ e; cases e) ?_
        refine A.take 1 rfl (by kernel_rfl) (by intro _ _ e; cases e) ?_
        refine A.take 2 rfl (by kernel_rfl) (by intro _ _ e; cases e) ?_
        first | (refine A.takeM 3 rfl (by kernel_rfl) (by intro _ _ e; cases e) ?_) | (refine A.take 3 rfl (by kernel_rfl) (by intro _ _ e; cases e) ?_)
        refine A.take 4 rfl (by kernel_rfl) (by intro _ _ e; cases e) ?_
        refine A.take 5 rfl (by kernel_rfl) (by intro _ _ e; cases e) ?_
        refine A.take 6 rfl (by kernel_rfl) (by intro _ _ e; cases e) ?_
        refine A.take 7 rfl (by kernel_rfl) (by intro _ _ e; cases e) ?_
        refine A.take 8 rfl (by kernel_rfl) (by intro _ _ e; cases e) ?_
        refine A.take 9 rfl (by kernel_rfl) (by intro _ _ e; cases e) ?_
        refine A.one 10 rfl (by kernel_rfl) ?_
        first | refine W.pop ?_ | refine W.fn hS (fun _ _ => ?_) | refine W.bs (fun _ _ => ?_) | refine W.box (fun _ _ => ?_) | refine W.alloc (fun _ _ => ?_) | refine W.store ?_
        refine A.soft ?_
        refine A.one 11 rfl (by kernel_rfl) ?_
        first | refine W.pop ?_ | refine W.fn hS (fun _ _ => ?_) | refine W.bs (fun _ _ => ?_) | refine W.box (fun _ _ => ?_) | refine W.alloc (fun _ _ => ?_) | refine W.store ?_
        refine A.hard (by rfl) ?_
        refine Any.done (by kernel_rfl) ?_
        repeat (first | refine hS.seq ?_ | refine hS.regionW ?_ | refine W.pop ?_ | refine W.yes ?_ | refine W.no ?_ | refine W.box (fun _ _ => ?_) | refine W.alloc (fun _ _ => ?_) | refine W.store ?_ | refine W.bs (fun _ _ => ?_) | refine W.fn hS (fun _ _ => ?_) | refine WL.nil ?_ | refine R.condT hS ?_ | refine R.condF hS ?_ | refine hS.skip ?_ | refine hS.block ?_ | refine hS.inBlock ?_ | refine R.ret hS ?_ | refine R.fin hS ?_ | refine R.begin hS ?_ | refine R.endRound hS ?_ | refine R.retRound hS ?_ | refine R.retC hS ?_ | refine R.endRangeDone hS ?_ | refine R.endRangeRet hS ?_)
        rename_i p5 f5 p6 f6
        refine W.call hS c75 (fun r h2 hr => ?_)
        obtain ⟨pb, rfl, fb, rfl⟩ := hr
        repeat (first | refine hS.seq ?_ | refine hS.regionW ?_ | refine W.pop ?_ | refine W.yes ?_ | refine W.no ?_ | refine W.box (fun _ _ => ?_) | refine W.alloc (fun _ _ => ?_) | refine W.store ?_ | refine W.bs (fun _ _ => ?_) | refine W.fn hS (fun _ _ => ?_) | refine WL.nil ?_ | refine R.condT hS ?_ | refine R.condF hS ?_ | refine hS.skip ?_ | refine hS.block ?_ | refine hS.inBlock ?_ | refine R.ret hS ?_ | refine R.fin hS ?_ | refine R.begin hS ?_ | refine R.endRound hS ?_ | refine R.retRound hS ?_ | refine R.retC hS ?_ | refine R.endRangeDone hS ?_ | refine R.endRangeRet hS ?_)
        refine R.range hS (fun r lp hs tm asg bd et ea eb xs fr fl nrl gr gl orr ol => ?_)
        have nlr : NeB lp r := ⟨Ne.symm nrl.out⟩
        have z5 : Fresh0 h p5 := inferInstance
        have z6 : Fresh0 h p6 := inferInstance
        have zl : Fresh0 h lp := inferInstance
        have zr : Fresh0 h r := inferInstance
        have m1 : NeB p1 p5 := inferInstance
        have m2 : NeB p1 p6 := inferInstance
        have m3 : NeB p2 p5 := inferInstance
        have m4 : NeB p2 p6 := inferInstance
        have m5 : NeB p5 p6 := inferInstance
        have m5' : NeB p6 p5 := inferInstance
        have m6 : NeB p1 lp := inferInstance
        have m7 : NeB p2 lp := inferInstance
        have m8 : NeB p5 lp := inferInstance
        have m9 : NeB p6 lp := inferInstance
        have ma : NeB pb lp := inferInstance
        have mb : NeB pb p2 := inferInstance
        have mc : NeB pb p5 := inferInstance
        have md : NeB pb p6 := inferInstance
        have me : NeB p5 p2 := inferInstance
        have mf : NeB p6 p2 := inferInstance
        have mg : NeB lp p2 := inferInstance
        have mh : NeB lp p5 := inferInstance
        have mi : NeB lp p6 := inferInstance
        have mj : NeB r p2 := inferInstance
        have mk : NeB r p5 := inferInstance
        have ml : NeB r p6 := inferInstance
        refine it116 hS (l := l) (v := vo) (r := r) (fnx := 67) (tmps := tm) (j := 44) (assign := asg) (body := bd) (Nat.le_of_lt hn) (fun i h' => Ext0 h h' ∧ HGC h' p1 (.cells (List.toArray [vo]) 22 (0, 0)) ∧ HGC h' p2 (.cells (List.toArray [.int .i64 0]) 36 (0, 0)) ∧ OwnC h' p2 ∧ HGC h' p5 (.cells (List.toArray [.bool (someV l i)]) 4 (0, 0)) ∧ OwnC h' p5 ∧
            HGC h' p6 (.cells (List.toArray [.int .i64 (Pt.at l ((i + l.length - 1) % l.length)).u, .int .i64 (Pt.at l ((i + l.length - 1) % l.length)).v, .int .i64 (Pt.at l (((i + l.length - 1) % l.length + 1) % l.length)).u, .int .i64 (Pt.at l (((i + l.length - 1) % l.length + 1) % l.length)).v]) 194 (0, 0)) ∧ OwnC h' p6 ∧
            HGC h' lp (.loop (lpr .ready none 67 tm #[44] asg bd r)) ∧ OwnC h' lp ∧ HGC h' r (.deferred (some [])) ∧ OwnC h' r ∧ HGC h' pb (.cells (List.toArray [vo]) 22 (0, 0)) ∧ ∀ j, j < i → edgeOk l j = true)
          (fun h'' => HGC h'' p2 (.cells (List.toArray [.int .i64 9]) 36 (0, 0)) ∧ (∃ r', HGC h'' lp (.loop (lpr .done (some .ret) 67 tm #[44] asg bd r'))) ∧ OwnC h'' lp ∧ HGC h'' r (.deferred (some [])) ∧ OwnC h'' r ∧ Ext0 h h'' ∧ ∃ i, i < l.length ∧ edgeOk l i = false) _ _
          ?_ ?_ ?_ ?_ ?_ ?_
        · rintro i h1 h2 ⟨a0, a1, a2, a3, a4, a5, a6, a7, a8, a9, a10, a11, a12, a13⟩ y
          have : ExtC h1 h2 := ⟨y⟩
          exact ⟨inferInstance, inferInstance, inferInstance, inferInstance, inferInstance, inferInstance, inferInstance, inferInstance, inferInstance, inferInstance, inferInstance, inferInstance, inferInstance, a13⟩
        · rintro i h1 ⟨a0, a1, a2, a3, a4, a5, a6, a7, a8, a9, a10, a11, a12, a13⟩
          exact ⟨inferInstance, inferInstance, inferInstance⟩
        · rintro i hi h1 ⟨a0, a1, a2, a3, a4, a5, a6, a7, a8, a9, a10, a11, a12, a13⟩ c' ht hf
          refine R.round et ea eb ?_
          simp only [sideV]
          repeat (first | refine hS.seq ?_ | refine hS.regionW ?_ | refine W.pop ?_ | refine W.yes ?_ | refine W.no ?_ | refine W.box (fun _ _ => ?_) | refine W.alloc (fun _ _ => ?_) | refine W.store ?_ | refine W.bs (fun _ _ => ?_) | refine W.fn hS (fun _ _ => ?_) | refine WL.nil ?_ | refine R.condT hS ?_ | refine R.condF hS ?_ | refine hS.skip ?_ | refine hS.block ?_ | refine hS.inBlock ?_ | refine R.ret hS ?_ | refine R.fin hS ?_ | refine R.begin hS ?_ | refine R.endRound hS ?_ | refine R.retRound hS ?_ | refine R.retC hS ?_ | refine R.endRangeDone hS ?_ | refine R.endRangeRet hS ?_)
          rename_i p7 f7
          have z7 : Fresh0 h p7 := inferInstance
          have q1 : NeB p1 p7 := inferInstance
          have q2 : NeB p2 p7 := inferInstance
          have q3 : NeB p5 p7 := inferInstance
          have q4 : NeB p6 p7 := inferInstance
          have q5 : NeB lp p7 := inferInstance
          have q6 : NeB r p7 := inferInstance
          have q7 : NeB pb p7 := inferInstance
          have q8 : NeB p7 p2 := inferInstance
          have q9 : NeB p7 p5 := inferInstance
          have qa : NeB p7 p6 := inferInstance
          have qb : NeB p7 lp := inferInstance
          refine hS.loop ?_
          refine loop_ind (fun (k : Nat) => l.length - k) (fun k E h2 => k ≤ l.length ∧ LookC E 1 (.pointer (some ⟨p1, 0, none⟩)) ∧ LookC E 2 (.pointer (some ⟨p2, 0, none⟩)) ∧ LookC E 5 (.pointer (some ⟨p5, 0, none⟩)) ∧ LookC E 6 (.pointer (some ⟨p6, 0, none⟩)) ∧ LookC E 7 (.pointer (some ⟨p7, 0, none⟩)) ∧ LookC E 45 vo ∧ LookC E 46 (.int .i64 l.length) ∧ LookC E 47 (.int .i64 (k : Nat)) ∧ Ext0 h h2 ∧ HGC h2 p1 (.cells (List.toArray [vo]) 22 (0, 0)) ∧ HGC h2 p2 (.cells (List.toArray [.int .i64 0]) 36 (0, 0)) ∧ OwnC h2 p2 ∧
            HGC h2 p5 (.cells (List.toArray [.bool (someV l i || (l.take k).any fun q => decide (leftAt l i q > 0))]) 4 (0, 0)) ∧ OwnC h2 p5 ∧ HGC h2 p6 (.cells (List.toArray [.int .i64 (Pt.at l ((i + l.length - 1) % l.length)).u, .int .i64 (Pt.at l ((i + l.length - 1) % l.length)).v, .int .i64 (Pt.at l (((i + l.length - 1) % l.length + 1) % l.length)).u, .int .i64 (Pt.at l (((i + l.length - 1) % l.length + 1) % l.length)).v]) 194 (0, 0)) ∧ OwnC h2 p6 ∧ HGC h2 p7 (.cells (List.toArray [.int .i64 (Pt.at l i).u, .int .i64 (Pt.at l i).v, .int .i64 (Pt.at l ((i + 1) % l.length)).u, .int .i64 (Pt.at l ((i + 1) % l.length)).v]) 194 (0, 0)) ∧
            HGC h2 lp (.loop (lpr .busy none 67 tm #[44] asg bd r)) ∧ OwnC h2 lp ∧ HGC h2 r (.deferred (some [])) ∧ OwnC h2 r ∧ HGC h2 pb (.cells (List.toArray [vo]) 22 (0, 0)) ∧ ∀ q ∈ l.take k, ¬ leftAt l i q < 0) ?_ 0 _ _
            ⟨Nat.zero_le _, inferInstance, inferInstance, inferInstance, inferInstance, inferInstance, inferInstance, inferInstance, inferInstance, inferInstance, inferInstance, inferInstance, inferInstance, (by simp only [List.take_zero, List.any_nil, Bool.or_false]; infer_instance), inferInstance, inferInstance, inferInstance, inferInstance, inferInstance, inferInstance, inferInstance, inferInstance, inferInstance, by simp⟩
          rintro k E h2 ⟨hk, b1, b2, b5, b6, b7, b45, b46, b47, y0, y1, y2, y3, y4, y5, y6, y7, y8, y9, y10, y11, y12, y13, hqk⟩ ih2
          by_cases hlk : k < l.length
          · have ix := ix_at hlk
            have t1 : IsC (decide ((k : Int) < (l.length : Int))) true := ⟨by simp [hlk]⟩
            have nw : NoW ((k : Int) + 1) := NoW.of (by omega) (by omega)
            have et := take_at hlk
            repeat (first | refine hS.seq ?_ | refine hS.regionW ?_ | refine W.pop ?_ | refine W.yes ?_ | refine W.no ?_ | refine W.box (fun _ _ => ?_) | refine W.alloc (fun _ _ => ?_) | refine W.store ?_ | refine W.bs (fun _ _ => ?_) | refine W.fn hS (fun _ _ => ?_) | refine WL.nil ?_ | refine R.condT hS ?_ | refine R.condF hS ?_ | refine hS.skip ?_ | refine hS.block ?_ | refine hS.inBlock ?_ | refine R.ret hS ?_ | refine R.fin hS ?_ | refine R.begin hS ?_ | refine R.endRound hS ?_ | refine R.retRound hS ?_ | refine R.retC hS ?_ | refine R.endRangeDone hS ?_ | refine R.endRangeRet hS ?_)
            refine R.cond hS (fun hT => ?_) (fun hF => ?_)
            · repeat (first | refine hS.seq ?_ | refine hS.regionW ?_ | refine W.pop ?_ | refine W.yes ?_ | refine W.no ?_ | refine W.box (fun _ _ => ?_) | refine W.alloc (fun _ _ => ?_) | refine W.store ?_ | refine W.bs (fun _ _ => ?_) | refine W.fn hS (fun _ _ => ?_) | refine WL.nil ?_ | refine R.condT hS ?_ | refine R.condF hS ?_ | refine hS.skip ?_ | refine hS.block ?_ | refine hS.inBlock ?_ | refine R.ret hS ?_ | refine R.fin hS ?_ | refine R.begin hS ?_ | refine R.endRound hS ?_ | refine R.retRound hS ?_ | refine R.retC hS ?_ | refine R.endRangeDone hS ?_ | refine R.endRangeRet hS ?_)
              refine hf _ ⟨inferInstance, ⟨_, inferInstance⟩, inferInstance, inferInstance, inferInstance, inferInstance, i, hi, ?_⟩
              have hlt0 : decide (leftAt l i (Pt.at l k) < 0) = true := hT.out
              have : l.all (fun p => !decide (leftAt l i p < 0)) = false := by
                rw [List.all_eq_false]
                exact ⟨Pt.at l k, List.mem_of_getElem? ix.out, by simp only [hlt0]; simp⟩
              simp only [edgeOk, this, Bool.false_and]
            · have hge : ¬ leftAt l i (Pt.at l k) < 0 := by simpa [leftAt] using hF.out
              have hq' : ∀ q ∈ l.take (k + 1), ¬ leftAt l i q < 0 := by
                intro q hq
                rw [et] at hq
                rcases List.mem_append.1 hq with hq | hq
                · exact hqk q hq
                · rw [List.mem_singleton.1 hq]; exact hge
              have ek : ((k + 1 : Nat) : Int) = (k : Int) + 1 := by omega
              repeat (first | refine hS.seq ?_ | refine hS.regionW ?_ | refine W.pop ?_ | refine W.yes ?_ | refine W.no ?_ | refine W.box (fun _ _ => ?_) | refine W.alloc (fun _ _ => ?_) | refine W.store ?_ | refine W.bs (fun _ _ => ?_) | refine W.fn hS (fun _ _ => ?_) | refine WL.nil ?_ | refine R.condT hS ?_ | refine R.condF hS ?_ | refine hS.skip ?_ | refine hS.block ?_ | refine hS.inBlock ?_ | refine R.ret hS ?_ | refine R.fin hS ?_ | refine R.begin hS ?_ | refine R.endRound hS ?_ | refine R.retRound hS ?_ | refine R.retC hS ?_ | refine R.endRangeDone hS ?_ | refine R.endRangeRet hS ?_)
              refine R.cond hS (fun hT => ?_) (fun hF => ?_)
              · have hgt : decide (leftAt l i (Pt.at l k) > 0) = true := hT.out
                have ev : (someV l i || (l.take (k + 1)).any fun q => decide (leftAt l i q > 0)) = true := by
                  rw [et, List.any_append]; simp only [List.any_cons, hgt, Bool.true_or, Bool.or_true]
                repeat (first | refine hS.seq ?_ | refine hS.regionW ?_ | refine W.pop ?_ | refine W.yes ?_ | refine W.no ?_ | refine W.box (fun _ _ => ?_) | refine W.alloc (fun _ _ => ?_) | refine W.store ?_ | refine W.bs (fun _ _ => ?_) | refine W.fn hS (fun _ _ => ?_) | refine WL.nil ?_ | refine R.condT hS ?_ | refine R.condF hS ?_ | refine hS.skip ?_ | refine hS.block ?_ | refine hS.inBlock ?_ | refine R.ret hS ?_ | refine R.fin hS ?_ | refine R.begin hS ?_ | refine R.endRound hS ?_ | refine R.retRound hS ?_ | refine R.retC hS ?_ | refine R.endRangeDone hS ?_ | refine R.endRangeRet hS ?_)
                refine hS.inLoop ?_
                refine ih2 (k + 1) _ _ (by omega) ?_
                rw [ev, ek]
                exact ⟨hlk, inferInstance, inferInstance, inferInstance, inferInstance, inferInstance, inferInstance, inferInstance, inferInstance, inferInstance, inferInstance, inferInstance, inferInstance, inferInstance, inferInstance, inferInstance, inferInstance, inferInstance, inferInstance, inferInstance, inferInstance, inferInstance, inferInstance, hq'⟩
              · have hgt : decide (leftAt l i (Pt.at l k) > 0) = false := hF.out
                have ev : (someV l i || (l.take (k + 1)).any fun q => decide (leftAt l i q > 0)) = (someV l i || (l.take k).any fun q => decide (leftAt l i q > 0)) := by
                  rw [et, List.any_append]; simp only [List.any_cons, hgt, List.any_nil, Bool.or_false]
                repeat (first | refine hS.seq ?_ | refine hS.regionW ?_ | refine W.pop ?_ | refine W.yes ?_ | refine W.no ?_ | refine W.box (fun _ _ => ?_) | refine W.alloc (fun _ _ => ?_) | refine W.store ?_ | refine W.bs (fun _ _ => ?_) | refine W.fn hS (fun _ _ => ?_) | refine WL.nil ?_ | refine R.condT hS ?_ | refine R.condF hS ?_ | refine hS.skip ?_ | refine hS.block ?_ | refine hS.inBlock ?_ | refine R.ret hS ?_ | refine R.fin hS ?_ | refine R.begin hS ?_ | refine R.endRound hS ?_ | refine R.retRound hS ?_ | refine R.retC hS ?_ | refine R.endRangeDone hS ?_ | refine R.endRangeRet hS ?_)
                refine hS.inLoop ?_
                refine ih2 (k + 1) _ _ (by omega) ?_
                rw [ev, ek]
                exact ⟨hlk, inferInstance, inferInstance, inferInstance, inferInstance, inferInstance, inferInstance, inferInstance, inferInstance, inferInstance, inferInstance, inferInstance, inferInstance, inferInstance, inferInstance, inferInstance, inferInstance, inferInstance, inferInstance, inferInstance, inferInstance, inferInstance, inferInstance, hq'⟩
          · have t1 : IsC (decide ((k : Int) < (l.length : Int))) false := ⟨by simp; omega⟩
            have ekn : k = l.length := by omega
            subst ekn
            rw [List.take_length] at hqk y4
            repeat (first | refine hS.seq ?_ | refine hS.regionW ?_ | refine W.pop ?_ | refine W.yes ?_ | refine W.no ?_ | refine W.box (fun _ _ => ?_) | refine W.alloc (fun _ _ => ?_) | refine W.store ?_ | refine W.bs (fun _ _ => ?_) | refine W.fn hS (fun _ _ => ?_) | refine WL.nil ?_ | refine R.condT hS ?_ | refine R.condF hS ?_ | refine hS.skip ?_ | refine hS.block ?_ | refine hS.inBlock ?_ | refine R.ret hS ?_ | refine R.fin hS ?_ | refine R.begin hS ?_ | refine R.endRound hS ?_ | refine R.retRound hS ?_ | refine R.retC hS ?_ | refine R.endRangeDone hS ?_ | refine R.endRangeRet hS ?_)
            refine hS.exit rfl ?_
            repeat (first | refine hS.seq ?_ | refine hS.regionW ?_ | refine W.pop ?_ | refine W.yes ?_ | refine W.no ?_ | refine W.box (fun _ _ => ?_) | refine W.alloc (fun _ _ => ?_) | refine W.store ?_ | refine W.bs (fun _ _ => ?_) | refine W.fn hS (fun _ _ => ?_) | refine WL.nil ?_ | refine R.condT hS ?_ | refine R.condF hS ?_ | refine hS.skip ?_ | refine hS.block ?_ | refine hS.inBlock ?_ | refine R.ret hS ?_ | refine R.fin hS ?_ | refine R.begin hS ?_ | refine R.endRound hS ?_ | refine R.retRound hS ?_ | refine R.retC hS ?_ | refine R.endRangeDone hS ?_ | refine R.endRangeRet hS ?_)
            have hall : l.all (fun p => !decide (leftAt l i p < 0)) = true := by
              rw [List.all_eq_true]
              intro q hq; simpa using hqk q hq
            have hsome : someV l (i + 1) = (someV l i || l.any fun q => decide (leftAt l i q > 0)) := by
              simp only [someV, List.range_succ, List.any_append, List.any_cons, List.any_nil, Bool.or_false]
            have hmod : (i + 1 + l.length - 1) % l.length = i := by
              rw [show i + 1 + l.length - 1 = i + l.length by omega, Nat.add_mod_right]; exact Nat.mod_eq_of_lt hi
            refine W.split (fun hT => ?_) (fun hF => ?_)
            · repeat (first | refine hS.seq ?_ | refine hS.regionW ?_ | refine W.pop ?_ | refine W.yes ?_ | refine W.no ?_ | refine W.box (fun _ _ => ?_) | refine W.alloc (fun _ _ => ?_) | refine W.store ?_ | refine W.bs (fun _ _ => ?_) | refine W.fn hS (fun _ _ => ?_) | refine WL.nil ?_ | refine R.condT hS ?_ | refine R.condF hS ?_ | refine hS.skip ?_ | refine hS.block ?_ | refine hS.inBlock ?_ | refine R.ret hS ?_ | refine R.fin hS ?_ | refine R.begin hS ?_ | refine R.endRound hS ?_ | refine R.retRound hS ?_ | refine R.retC hS ?_ | refine R.endRangeDone hS ?_ | refine R.endRangeRet hS ?_)
              refine R.cond hS (fun hT2 => ?_) (fun hF2 => ?_)
              · repeat (first | refine hS.seq ?_ | refine hS.regionW ?_ | refine W.pop ?_ | refine W.yes ?_ | refine W.no ?_ | refine W.box (fun _ _ => ?_) | refine W.alloc (fun _ _ => ?_) | refine W.store ?_ | refine W.bs (fun _ _ => ?_) | refine W.fn hS (fun _ _ => ?_) | refine WL.nil ?_ | refine R.condT hS ?_ | refine R.condF hS ?_ | refine hS.skip ?_ | refine hS.block ?_ | refine hS.inBlock ?_ | refine R.ret hS ?_ | refine R.fin hS ?_ | refine R.begin hS ?_ | refine R.endRound hS ?_ | refine R.retRound hS ?_ | refine R.retC hS ?_ | refine R.endRangeDone hS ?_ | refine R.endRangeRet hS ?_)
                refine hf _ ⟨inferInstance, ⟨_, inferInstance⟩, inferInstance, inferInstance, inferInstance, inferInstance, i, hi, ?_⟩
                have hb := hT2.out
                have ha := hT.out
                simp only [edgeOk, turnBad, hall, ha, hb, Bool.true_and, Bool.not_true]
              · repeat (first | refine hS.seq ?_ | refine hS.regionW ?_ | refine W.pop ?_ | refine W.yes ?_ | refine W.no ?_ | refine W.box (fun _ _ => ?_) | refine W.alloc (fun _ _ => ?_) | refine W.store ?_ | refine W.bs (fun _ _ => ?_) | refine W.fn hS (fun _ _ => ?_) | refine WL.nil ?_ | refine R.condT hS ?_ | refine R.condF hS ?_ | refine hS.skip ?_ | refine hS.block ?_ | refine hS.inBlock ?_ | refine R.ret hS ?_ | refine R.fin hS ?_ | refine R.begin hS ?_ | refine R.endRound hS ?_ | refine R.retRound hS ?_ | refine R.retC hS ?_ | refine R.endRangeDone hS ?_ | refine R.endRangeRet hS ?_)
                refine ht _ ?_
                refine ⟨inferInstance, inferInstance, inferInstance, inferInstance, (by rw [hsome]; infer_instance), inferInstance, (by simp only [hmod]; infer_instance), inferInstance, inferInstance, inferInstance, inferInstance, inferInstance, inferInstance, ?_⟩
                intro j hj
                by_cases ej : j = i
                · subst ej
                  have hb := hF2.out
                  simp only [edgeOk, turnBad, hall, hb, Bool.true_and, Bool.and_false, Bool.not_false]
                · exact a13 j (by omega)
            · repeat (first | refine hS.seq ?_ | refine hS.regionW ?_ | refine W.pop ?_ | refine W.yes ?_ | refine W.no ?_ | refine W.box (fun _ _ => ?_) | refine W.alloc (fun _ _ => ?_) | refine W.store ?_ | refine W.bs (fun _ _ => ?_) | refine W.fn hS (fun _ _ => ?_) | refine WL.nil ?_ | refine R.condT hS ?_ | refine R.condF hS ?_ | refine hS.skip ?_ | refine hS.block ?_ | refine hS.inBlock ?_ | refine R.ret hS ?_ | refine R.fin hS ?_ | refine R.begin hS ?_ | refine R.endRound hS ?_ | refine R.retRound hS ?_ | refine R.retC hS ?_ | refine R.endRangeDone hS ?_ | refine R.endRangeRet hS ?_)
              refine ht _ ?_
              refine ⟨inferInstance, inferInstance, inferInstance, inferInstance, (by rw [hsome]; infer_instance), inferInstance, (by simp only [hmod]; infer_instance), inferInstance, inferInstance, inferInstance, inferInstance, inferInstance, inferInstance, ?_⟩
              intro j hj
              by_cases ej : j = i
              · subst ej
                have ha := hF.out
                simp only [edgeOk, turnBad, hall, ha, Bool.true_and, Bool.false_and, Bool.not_false]
              · exact a13 j (by omega)
        · rintro h1 ⟨a0, a1, a2, a3, a4, a5, a6, a7, a8, a9, a10, a11, a12, a13⟩
          have hall : (List.range l.length).all (edgeOk l) = true := by
            simp only [List.all_eq_true, List.mem_range]; exact a13
          have hm : (List.range l.length).any (fun i => decide (Pt.at l i ∈ l.take i)) = false := by
            rw [List.any_eq_false]
            intro j hj
            simpa using hq j (by simpa using hj)
          have hno : ¬ (¬ (3 ≤ l.length ∧ l.length ≤ 12) ∨ l.any (fun p => !placedV p) = true) := by
            rintro (h | h)
            · exact h e
            · rw [hany] at h; cases h
          repeat (first | refine hS.seq ?_ | refine hS.regionW ?_ | refine W.pop ?_ | refine W.yes ?_ | refine W.no ?_ | refine W.box (fun _ _ => ?_) | refine W.alloc (fun _ _ => ?_) | refine W.store ?_ | refine W.bs (fun _ _ => ?_) | refine W.fn hS (fun _ _ => ?_) | refine WL.nil ?_ | refine R.condT hS ?_ | refine R.condF hS ?_ | refine hS.skip ?_ | refine hS.block ?_ | refine hS.inBlock ?_ | refine R.ret hS ?_ | refine R.fin hS ?_ | refine R.begin hS ?_ | refine R.endRound hS ?_ | refine R.retRound hS ?_ | refine R.retC hS ?_ | refine R.endRangeDone hS ?_ | refine R.endRangeRet hS ?_)
          refine R.cond hS (fun hT => ?_) (fun hF => ?_)
          · repeat (first | refine hS.seq ?_ | refine hS.regionW ?_ | refine W.pop ?_ | refine W.yes ?_ | refine W.no ?_ | refine W.box (fun _ _ => ?_) | refine W.alloc (fun _ _ => ?_) | refine W.store ?_ | refine W.bs (fun _ _ => ?_) | refine W.fn hS (fun _ _ => ?_) | refine WL.nil ?_ | refine R.condT hS ?_ | refine R.condF hS ?_ | refine hS.skip ?_ | refine hS.block ?_ | refine hS.inBlock ?_ | refine R.ret hS ?_ | refine R.fin hS ?_ | refine R.begin hS ?_ | refine R.endRound hS ?_ | refine R.retRound hS ?_ | refine R.retC hS ?_ | refine R.endRangeDone hS ?_ | refine R.endRangeRet hS ?_)
            refine hc _ _ ⟨?_, Ext0.out⟩
            have : someV l l.length = false := by have := hT.out; simpa using this
            simp only [resOf, outlineE, if_neg hno, hm, hall, this, Bool.false_eq_true, if_false, Bool.and_false, Bool.and_true, Bool.and_self, if_true]
          · repeat (first | refine hS.seq ?_ | refine hS.regionW ?_ | refine W.pop ?_ | refine W.yes ?_ | refine W.no ?_ | refine W.box (fun _ _ => ?_) | refine W.alloc (fun _ _ => ?_) | refine W.store ?_ | refine W.bs (fun _ _ => ?_) | refine W.fn hS (fun _ _ => ?_) | refine WL.nil ?_ | refine R.condT hS ?_ | refine R.condF hS ?_ | refine hS.skip ?_ | refine hS.block ?_ | refine hS.inBlock ?_ | refine R.ret hS ?_ | refine R.fin hS ?_ | refine R.begin hS ?_ | refine R.endRound hS ?_ | refine R.retRound hS ?_ | refine R.retC hS ?_ | refine R.endRangeDone hS ?_ | refine R.endRangeRet hS ?_)
            refine hc _ _ ⟨?_, Ext0.out⟩
            have : someV l l.length = true := by have := hF.out; simpa using this
            simp only [resOf, outlineE, if_neg hno, hm, hall, this, Bool.false_eq_true, if_false, Bool.and_false, Bool.and_true, Bool.and_self, if_true]
        · rintro h1 ⟨a0, ⟨r', a1⟩, a2, a3, a4, a5, j, hj, a6⟩
          have hall : (List.range l.length).all (edgeOk l) = false := by
            rw [List.all_eq_false]; exact ⟨j, by simpa using hj, by simp [a6]⟩
          have hm : (List.range l.length).any (fun i => decide (Pt.at l i ∈ l.take i)) = false := by
            rw [List.any_eq_false]
            intro j hj
            simpa using hq j (by simpa using hj)
          have hno : ¬ (¬ (3 ≤ l.length ∧ l.length ≤ 12) ∨ l.any (fun p => !placedV p) = true) := by
            rintro (h | h)
            · exact h e
            · rw [hany] at h; cases h
          repeat (first | refine hS.seq ?_ | refine hS.regionW ?_ | refine W.pop ?_ | refine W.yes ?_ | refine W.no ?_ | refine W.box (fun _ _ => ?_) | refine W.alloc (fun _ _ => ?_) | refine W.store ?_ | refine W.bs (fun _ _ => ?_) | refine W.fn hS (fun _ _ => ?_) | refine WL.nil ?_ | refine R.condT hS ?_ | refine R.condF hS ?_ | refine hS.skip ?_ | refine hS.block ?_ | refine hS.inBlock ?_ | refine R.ret hS ?_ | refine R.fin hS ?_ | refine R.begin hS ?_ | refine R.endRound hS ?_ | refine R.retRound hS ?_ | refine R.retC hS ?_ | refine R.endRangeDone hS ?_ | refine R.endRangeRet hS ?_)
          refine hc _ _ ⟨?_, Ext0.out⟩
          simp only [resOf, outlineE, if_neg hno, hm, hall, Bool.false_eq_true, if_false, Bool.false_and]
        · have e1 : (0 + l.length - 1) % l.length = l.length - 1 := by rw [Nat.zero_add]; exact Nat.mod_eq_of_lt (by omega)
          have e2 : (l.length - 1 + 1) % l.length = 0 := by rw [Nat.sub_add_cancel (by omega)]; exact Nat.mod_self _
          refine ⟨inferInstance, inferInstance, inferInstance, inferInstance, (by simp only [someV, List.range_zero, List.any_nil]; infer_instance), inferInstance, ?_, inferInstance, inferInstance, inferInstance, inferInstance, inferInstance, inferInstance, fun j hj => by omega⟩
          simp only [e1, e2]
          infer_instance
end Go.Proofs.YtankmjkogcbnfaaDoor
/-
  The contract of wear.Check.
-/
namespace Go.Proofs.YtankmjkogcbnfaaDoor
open Go Go.SL Go.Conc
attribute [local irreducible] putE ofL Look Nth Ev HG Own SubL Wr Sgl EvL LH.upd WL OpS Any Con PopW Pop
def spansV (lo hi n : Int) : Bool := decide (0 ≤ lo ∧ lo ≤ hi ∧ hi ≤ n)
def Mk.at (l : List Mk) (i : Nat) : Mk := l.getD i ⟨0, 0, 0, 0⟩
theorem ixm_at {l : List Mk} {i : Nat} (hi : i < l.length) : IxC l i (Mk.at l i) := ⟨by simp [Mk.at, hi]⟩
def marksE (l : List Pt) (lh : List Bx) : List Mk → Int
  | [] => 0
  | m :: ms => if hasV l lh ⟨m.u, m.v⟩ = false then 7 else if spansV m.lo m.hi 2000 = false then 1 else marksE l lh ms
def badOrd (lm : List Mk) : Bool := (List.range lm.length).any fun i => decide (0 < i) && decide (orderV (Mk.at lm (i - 1)).u (Mk.at lm (i - 1)).v (Mk.at lm i).u (Mk.at lm i).v ≥ 0)
def clash (st lo hi : Int) (lm : List Mk) (m : Mk) : Bool := decide ((boundsV st lo hi lm m.u m.v).1 > (boundsV st lo hi lm m.u m.v).2)
def checkV (l : List Pt) (lh : List Bx) (st lo hi : Int) (lm : List Mk) : Int :=
  if outlineE l ≠ 0 then outlineE l
  else if lh.length > 6 then 3
  else if lh.any (fun x => decide (x.a ≥ x.c ∨ x.b ≥ x.d)) = true then 1
  else if ¬ (0 ≤ st ∧ st ≤ 1000) ∨ spansV lo hi 2000 = false then 1
  else if lm.length > 40 then 3
  else if marksE l lh lm ≠ 0 then marksE l lh lm
  else if badOrd lm = true then 8
  else if lm.any (clash st lo hi lm) = true then 10
  else 0

instance c31 {l : List Pt} {lh : List Bx} {lm : List Mk} {vo vh vm : Value} {st lo hi : Int} {h : LH} [so : SingleC vo] [sh : SingleC vh] [sm : SingleC vm] [hvo : SlC h 2 vo (l.map Pt.c)] [hvh : SlC h 4 vh (lh.map Bx.cs)] [hvm : SlC h 4 vm (lm.map Mk.c)]
    [hn : GtC l.length 4611686018427387904] [hn2 : GtC lh.length 4611686018427387904] [hn3 : GtC lm.length 4611686018427387904] :
    FnC Tryd.prog 31 [.agg #[vo, vh, .int .i64 st, .int .i64 lo, .int .i64 hi, vm]] h (.int .i64 (checkV l lh st lo hi lm)) := by
  have hvo' : SlAt h 2 vo (l.map Pt.c) := ⟨hvo.out⟩
  have hvh' : SlAt h 4 vh (lh.map Bx.cs) := ⟨hvh.out⟩
  have hvm' : SlAt h 4 vm (lm.map Mk.c) := ⟨hvm.out⟩
  have hn' := hn.out
  have hn2' := hn2.out
  have hn3' := hn3.out
  refine ⟨Con.intro (m := 1) Tryd.func31 rfl Tryd.ntmps31 rfl (by decide) ?_⟩
  intro main S hS c cs hc
  repeat (first | refine hS.seq ?_ | refine hS.regionW ?_ | refine W.pop ?_ | refine W.yes ?_ | refine W.no ?_ | refine W.box (fun _ _ => ?_) | refine W.alloc (fun _ _ => ?_) | refine W.store ?_ | refine W.bs (fun _ _ => ?_) | refine W.fn hS (fun _ _ => ?_) | refine WL.nil ?_ | refine R.condT hS ?_ | refine R.condF hS ?_ | refine hS.skip ?_ | refine hS.block ?_ | refine hS.inBlock ?_ | refine R.ret hS ?_ | refine R.fin hS ?_ | refine R.begin hS ?_ | refine R.endRound hS ?_ | refine R.retRound hS ?_ | refine R.retC hS ?_ | refine R.endRangeDone hS ?_ | refine R.endRangeRet hS ?_)
  rename_i p1 f1 h1 x1
  refine R.cond hS (fun hT => ?_) (fun hF => ?_)
  · repeat (first | refine hS.seq ?_ | refine hS.regionW ?_ | refine W.pop ?_ | refine W.yes ?_ | refine W.no ?_ | refine W.box (fun _ _ => ?_) | refine W.alloc (fun _ _ => ?_) | refine W.store ?_ | refine W.bs (fun _ _ => ?_) | refine W.fn hS (fun _ _ => ?_) | refine WL.nil ?_ | refine R.condT hS ?_ | refine R.condF hS ?_ | refine hS.skip ?_ | refine hS.block ?_ | refine hS.inBlock ?_ | refine R.ret hS ?_ | refine R.fin hS ?_ | refine R.begin hS ?_ | refine R.endRound hS ?_ | refine R.retRound hS ?_ | refine R.retC hS ?_ | refine R.endRangeDone hS ?_ | refine R.endRangeRet hS ?_)
    refine hc _ _ ⟨?_, Ext0.out⟩
    have : outlineE l ≠ 0 := by have := hT.out; simpa using this
    simp only [resOf, checkV, if_pos this]
  · have k1 : ¬ outlineE l ≠ 0 := by have := hF.out; simpa using this
    repeat (first | refine hS.seq ?_ | refine hS.regionW ?_ | refine W.pop ?_ | refine W.yes ?_ | refine W.no ?_ | refine W.box (fun _ _ => ?_) | refine W.alloc (fun _ _ => ?_) | refine W.store ?_ | refine W.bs (fun _ _ => ?_) | refine W.fn hS (fun _ _ => ?_) | refine WL.nil ?_ | refine R.condT hS ?_ | refine R.condF hS ?_ | refine hS.skip ?_ | refine hS.block ?_ | refine hS.inBlock ?_ | refine R.ret hS ?_ | refine R.fin hS ?_ | refine R.begin hS ?_ | refine R.endRound hS ?_ | refine R.retRound hS ?_ | refine R.retC hS ?_ | refine R.endRangeDone hS ?_ | refine R.endRangeRet hS ?_)
    refine R.cond hS (fun hT => ?_) (fun hF => ?_)
    · repeat (first | refine hS.seq ?_ | refine hS.regionW ?_ | refine W.pop ?_ | refine W.yes ?_ | refine W.no ?_ | refine W.box (fun _ _ => ?_) | refine W.alloc (fun _ _ => ?_) | refine W.store ?_ | refine W.bs (fun _ _ => ?_) | refine W.fn hS (fun _ _ => ?_) | refine WL.nil ?_ | refine R.condT hS ?_ | refine R.condF hS ?_ | refine hS.skip ?_ | refine hS.block ?_ | refine hS.inBlock ?_ | refine R.ret hS ?_ | refine R.fin hS ?_ | refine R.begin hS ?_ | refine R.endRound hS ?_ | refine R.retRound hS ?_ | refine R.retC hS ?_ | refine R.endRangeDone hS ?_ | refine R.endRangeRet hS ?_)
      refine hc _ _ ⟨?_, Ext0.out⟩
      have : lh.length > 6 := by have := hT.out; simp at this; omega
      simp only [resOf, checkV, if_neg k1, if_pos this]
    · have k2 : ¬ lh.length > 6 := by have := hF.out; simp at this; omega
      repeat (first | refine hS.seq ?_ | refine hS.regionW ?_ | refine W.pop ?_ | refine W.yes ?_ | refine W.no ?_ | refine W.box (fun _ _ => ?_) | refine W.alloc (fun _ _ => ?_) | refine W.store ?_ | refine W.bs (fun _ _ => ?_) | refine W.fn hS (fun _ _ => ?_) | refine WL.nil ?_ | refine R.condT hS ?_ | refine R.condF hS ?_ | refine hS.skip ?_ | refine hS.block ?_ | refine hS.inBlock ?_ | refine R.ret hS ?_ | refine R.fin hS ?_ | refine R.begin hS ?_ | refine R.endRound hS ?_ | refine R.retRound hS ?_ | refine R.retC hS ?_ | refine R.endRangeDone hS ?_ | refine R.endRangeRet hS ?_)
      refine W.fn hS (hc := c68 (g := 69) (cap := []) (l := lh) (toC := Bx.cs) (p := fun x => decide (x.a ≥ x.c ∨ x.b ≥ x.d)) (Nat.le_of_lt hn2') (fun x _ h2 _ => c69 (h := h2) (a := x.a) (b := x.b) (c := x.c) (d := x.d))) (fun _ _ => ?_)
      repeat (first | refine hS.seq ?_ | refine hS.regionW ?_ | refine W.pop ?_ | refine W.yes ?_ | refine W.no ?_ | refine W.box (fun _ _ => ?_) | refine W.alloc (fun _ _ => ?_) | refine W.store ?_ | refine W.bs (fun _ _ => ?_) | refine W.fn hS (fun _ _ => ?_) | refine WL.nil ?_ | refine R.condT hS ?_ | refine R.condF hS ?_ | refine hS.skip ?_ | refine hS.block ?_ | refine hS.inBlock ?_ | refine R.ret hS ?_ | refine R.fin hS ?_ | refine R.begin hS ?_ | refine R.endRound hS ?_ | refine R.retRound hS ?_ | refine R.retC hS ?_ | refine R.endRangeDone hS ?_ | refine R.endRangeRet hS ?_)
      refine R.cond hS (fun hT => ?_) (fun hF => ?_)
      · repeat (first | refine hS.seq ?_ | refine hS.regionW ?_ | refine W.pop ?_ | refine W.yes ?_ | refine W.no ?_ | refine W.box (fun _ _ => ?_) | refine W.alloc (fun _ _ => ?_) | refine W.store ?_ | refine W.bs (fun _ _ => ?_) | refine W.fn hS (fun _ _ => ?_) | refine WL.nil ?_ | refine R.condT hS ?_ | refine R.condF hS ?_ | refine hS.skip ?_ | refine hS.block ?_ | refine hS.inBlock ?_ | refine R.ret hS ?_ | refine R.fin hS ?_ | refine R.begin hS ?_ | refine R.endRound hS ?_ | refine R.retRound hS ?_ | refine R.retC hS ?_ | refine R.endRangeDone hS ?_ | refine R.endRangeRet hS ?_)
        refine hc _ _ ⟨?_, Ext0.out⟩
        simp only [resOf, checkV, if_neg k1, if_neg k2, if_pos hT.out]
      · have k3 : ¬ lh.any (fun x => decide (x.a ≥ x.c ∨ x.b ≥ x.d)) = true := by rw [hF.out]; simp
        repeat (first | refine hS.seq ?_ | refine hS.regionW ?_ | refine W.pop ?_ | refine W.yes ?_ | refine W.no ?_ | refine W.box (fun _ _ => ?_) | refine W.alloc (fun _ _ => ?_) | refine W.store ?_ | refine W.bs (fun _ _ => ?_) | refine W.fn hS (fun _ _ => ?_) | refine WL.nil ?_ | refine R.condT hS ?_ | refine R.condF hS ?_ | refine hS.skip ?_ | refine hS.block ?_ | refine hS.inBlock ?_ | refine R.ret hS ?_ | refine R.fin hS ?_ | refine R.begin hS ?_ | refine R.endRound hS ?_ | refine R.retRound hS ?_ | refine R.retC hS ?_ | refine R.endRangeDone hS ?_ | refine R.endRangeRet hS ?_)
        refine W.split (fun hT => ?_) (fun hF => ?_)
        · have k4 : ¬ (0 ≤ st ∧ st ≤ 1000) ∨ spansV lo hi 2000 = false := .inl (by have := hT.out; simp at this; omega)
          repeat (first | refine hS.seq ?_ | refine hS.regionW ?_ | refine W.pop ?_ | refine W.yes ?_ | refine W.no ?_ | refine W.box (fun _ _ => ?_) | refine W.alloc (fun _ _ => ?_) | refine W.store ?_ | refine W.bs (fun _ _ => ?_) | refine W.fn hS (fun _ _ => ?_) | refine WL.nil ?_ | refine R.condT hS ?_ | refine R.condF hS ?_ | refine hS.skip ?_ | refine hS.block ?_ | refine hS.inBlock ?_ | refine R.ret hS ?_ | refine R.fin hS ?_ | refine R.begin hS ?_ | refine R.endRound hS ?_ | refine R.retRound hS ?_ | refine R.retC hS ?_ | refine R.endRangeDone hS ?_ | refine R.endRangeRet hS ?_)
          refine hc _ _ ⟨?_, Ext0.out⟩
          simp only [resOf, checkV, if_neg k1, if_neg k2, if_neg k3, if_pos k4]
        · have k4a : (0 ≤ st ∧ st ≤ 1000) := by have := hF.out; simp at this; exact this
          repeat (first | refine hS.seq ?_ | refine hS.regionW ?_ | refine W.pop ?_ | refine W.yes ?_ | refine W.no ?_ | refine W.box (fun _ _ => ?_) | refine W.alloc (fun _ _ => ?_) | refine W.store ?_ | refine W.bs (fun _ _ => ?_) | refine W.fn hS (fun _ _ => ?_) | refine WL.nil ?_ | refine R.condT hS ?_ | refine R.condF hS ?_ | refine hS.skip ?_ | refine hS.block ?_ | refine hS.inBlock ?_ | refine R.ret hS ?_ | refine R.fin hS ?_ | refine R.begin hS ?_ | refine R.endRound hS ?_ | refine R.retRound hS ?_ | refine R.retC hS ?_ | refine R.endRangeDone hS ?_ | refine R.endRangeRet hS ?_)
          refine R.cond hS (fun hT => ?_) (fun hF => ?_)
          · have k4 : ¬ (0 ≤ st ∧ st ≤ 1000) ∨ spansV lo hi 2000 = false := .inr (by have := hT.out; rw [Bool.not_eq_true'] at this; exact this)
            repeat (first | refine hS.seq ?_ | refine hS.regionW ?_ | refine W.pop ?_ | refine W.yes ?_ | refine W.no ?_ | refine W.box (fun _ _ => ?_) | refine W.alloc (fun _ _ => ?_) | refine W.store ?_ | refine W.bs (fun _ _ => ?_) | refine W.fn hS (fun _ _ => ?_) | refine WL.nil ?_ | refine R.condT hS ?_ | refine R.condF hS ?_ | refine hS.skip ?_ | refine hS.block ?_ | refine hS.inBlock ?_ | refine R.ret hS ?_ | refine R.fin hS ?_ | refine R.begin hS ?_ | refine R.endRound hS ?_ | refine R.retRound hS ?_ | refine R.retC hS ?_ | refine R.endRangeDone hS ?_ | refine R.endRangeRet hS ?_)
            refine hc _ _ ⟨?_, Ext0.out⟩
            simp only [resOf, checkV, if_neg k1, if_neg k2, if_neg k3, if_pos k4]
          · have k4 : ¬ (¬ (0 ≤ st ∧ st ≤ 1000) ∨ spansV lo hi 2000 = false) := by
              rintro (h | h)
              · exact h k4a
              · have := hF.out; rw [Bool.not_eq_false'] at this; rw [show spansV lo hi 2000 = true from this] at h; cases h
            repeat (first | refine hS.seq ?_ | refine hS.regionW ?_ | refine W.pop ?_ | refine W.yes ?_ | refine W.no ?_ | refine W.box (fun _ _ => ?_) | refine W.alloc (fun _ _ => ?_) | refine W.store ?_ | refine W.bs (fun _ _ => ?_) | refine W.fn hS (fun _ _ => ?_) | refine WL.nil ?_ | refine R.condT hS ?_ | refine R.condF hS ?_ | refine hS.skip ?_ | refine hS.block ?_ | refine hS.inBlock ?_ | refine R.ret hS ?_ | refine R.fin hS ?_ | refine R.begin hS ?_ | refine R.endRound hS ?_ | refine R.retRound hS ?_ | refine R.retC hS ?_ | refine R.endRangeDone hS ?_ | refine R.endRangeRet hS ?_)
            refine R.cond hS (fun hT => ?_) (fun hF => ?_)
            · repeat (first | refine hS.seq ?_ | refine hS.regionW ?_ | refine W.pop ?_ | refine W.yes ?_ | refine W.no ?_ | refine W.box (fun _ _ => ?_) | refine W.alloc (fun _ _ => ?_) | refine W.store ?_ | refine W.bs (fun _ _ => ?_) | refine W.fn hS (fun _ _ => ?_) | refine WL.nil ?_ | refine R.condT hS ?_ | refine R.condF hS ?_ | refine hS.skip ?_ | refine hS.block ?_ | refine hS.inBlock ?_ | refine R.ret hS ?_ | refine R.fin hS ?_ | refine R.begin hS ?_ | refine R.endRound hS ?_ | refine R.retRound hS ?_ | refine R.retC hS ?_ | refine R.endRangeDone hS ?_ | refine R.endRangeRet hS ?_)
              refine hc _ _ ⟨?_, Ext0.out⟩
              have : lm.length > 40 := by have := hT.out; simp at this; omega
              simp only [resOf, checkV, if_neg k1, if_neg k2, if_neg k3, if_neg k4, if_pos this]
            · have k5 : ¬ lm.length > 40 := by have := hF.out; simp at this; omega
              repeat (first | refine hS.seq ?_ | refine hS.regionW ?_ | refine W.pop ?_ | refine W.yes ?_ | refine W.no ?_ | refine W.box (fun _ _ => ?_) | refine W.alloc (fun _ _ => ?_) | refine W.store ?_ | refine W.bs (fun _ _ => ?_) | refine W.fn hS (fun _ _ => ?_) | refine WL.nil ?_ | refine R.condT hS ?_ | refine R.condF hS ?_ | refine hS.skip ?_ | refine hS.block ?_ | refine hS.inBlock ?_ | refine R.ret hS ?_ | refine R.fin hS ?_ | refine R.begin hS ?_ | refine R.endRound hS ?_ | refine R.retRound hS ?_ | refine R.retC hS ?_ | refine R.endRangeDone hS ?_ | refine R.endRangeRet hS ?_)
              refine hS.loop ?_
              refine loop_ind (fun (i : Nat) => lm.length - i) (fun i E h' => i ≤ lm.length ∧ LookC E 1 (.pointer (some ⟨p1, 0, none⟩)) ∧ LookC E 46 vm ∧ LookC E 47 (.int .i64 lm.length) ∧ LookC E 48 (.int .i64 (i : Nat)) ∧ Ext0 h h' ∧ HGC h' p1 (.cells (List.toArray [vo, vh, .int .i64 st, .int .i64 lo, .int .i64 hi, vm]) 30 (0, 0)) ∧ marksE l lh lm = marksE l lh (lm.drop i)) ?_ 0 _ _ ⟨Nat.zero_le _, inferInstance, inferInstance, inferInstance, inferInstance, inferInstance, inferInstance, by rw [List.drop_zero]⟩
              rintro i E h' ⟨hile, l1, l46, l47, l48, hx, g1, hq⟩ ih
              by_cases hlt : i < lm.length
              · have ix := ixm_at hlt
                have t1 : IsC (decide ((i : Int) < (lm.length : Int))) true := ⟨by simp [hlt]⟩
                have nw : NoW ((i : Int) + 1) := NoW.of (by omega) (by omega)
                have ed : lm.drop i = Mk.at lm i :: lm.drop (i + 1) := by rw [List.drop_eq_getElem_cons hlt]; simp [Mk.at, hlt]
                rw [ed] at hq
                repeat (first | refine hS.seq ?_ | refine hS.regionW ?_ | refine W.pop ?_ | refine W.yes ?_ | refine W.no ?_ | refine W.box (fun _ _ => ?_) | refine W.alloc (fun _ _ => ?_) | refine W.store ?_ | refine W.bs (fun _ _ => ?_) | refine W.fn hS (fun _ _ => ?_) | refine WL.nil ?_ | refine R.condT hS ?_ | refine R.condF hS ?_ | refine hS.skip ?_ | refine hS.block ?_ | refine hS.inBlock ?_ | refine R.ret hS ?_ | refine R.fin hS ?_ | refine R.begin hS ?_ | refine R.endRound hS ?_ | refine R.retRound hS ?_ | refine R.retC hS ?_ | refine R.endRangeDone hS ?_ | refine R.endRangeRet hS ?_)
                refine R.cond hS (fun hT => ?_) (fun hF => ?_)
                · have hh : hasV l lh ⟨(Mk.at lm i).u, (Mk.at lm i).v⟩ = false := by have := hT.out; rw [Bool.not_eq_true'] at this; exact this
                  repeat (first | refine hS.seq ?_ | refine hS.regionW ?_ | refine W.pop ?_ | refine W.yes ?_ | refine W.no ?_ | refine W.box (fun _ _ => ?_) | refine W.alloc (fun _ _ => ?_) | refine W.store ?_ | refine W.bs (fun _ _ => ?_) | refine W.fn hS (fun _ _ => ?_) | refine WL.nil ?_ | refine R.condT hS ?_ | refine R.condF hS ?_ | refine hS.skip ?_ | refine hS.block ?_ | refine hS.inBlock ?_ | refine R.ret hS ?_ | refine R.fin hS ?_ | refine R.begin hS ?_ | refine R.endRound hS ?_ | refine R.retRound hS ?_ | refine R.retC hS ?_ | refine R.endRangeDone hS ?_ | refine R.endRangeRet hS ?_)
                  refine hc _ _ ⟨?_, Ext0.out⟩
                  have hm : marksE l lh lm = 7 := by rw [hq, marksE, if_pos hh]
                  simp only [resOf, checkV, if_neg k1, if_neg k2, if_neg k3, if_neg k4, if_neg k5, hm]
                  rfl
                · have hh : ¬ hasV l lh ⟨(Mk.at lm i).u, (Mk.at lm i).v⟩ = false := by have := hF.out; rw [Bool.not_eq_false'] at this; rw [this]; simp
                  repeat (first | refine hS.seq ?_ | refine hS.regionW ?_ | refine W.pop ?_ | refine W.yes ?_ | refine W.no ?_ | refine W.box (fun _ _ => ?_) | refine W.alloc (fun _ _ => ?_) | refine W.store ?_ | refine W.bs (fun _ _ => ?_) | refine W.fn hS (fun _ _ => ?_) | refine WL.nil ?_ | refine R.condT hS ?_ | refine R.condF hS ?_ | refine hS.skip ?_ | refine hS.block ?_ | refine hS.inBlock ?_ | refine R.ret hS ?_ | refine R.fin hS ?_ | refine R.begin hS ?_ | refine R.endRound hS ?_ | refine R.retRound hS ?_ | refine R.retC hS ?_ | refine R.endRangeDone hS ?_ | refine R.endRangeRet hS ?_)
                  refine R.cond hS (fun hT => ?_) (fun hF => ?_)
                  · have hs : spansV (Mk.at lm i).lo (Mk.at lm i).hi 2000 = false := by have := hT.out; rw [Bool.not_eq_true'] at this; exact this
                    repeat (first | refine hS.seq ?_ | refine hS.regionW ?_ | refine W.pop ?_ | refine W.yes ?_ | refine W.no ?_ | refine W.box (fun _ _ => ?_) | refine W.alloc (fun _ _ => ?_) | refine W.store ?_ | refine W.bs (fun _ _ => ?_) | refine W.fn hS (fun _ _ => ?_) | refine WL.nil ?_ | refine R.condT hS ?_ | refine R.condF hS ?_ | refine hS.skip ?_ | refine hS.block ?_ | refine hS.inBlock ?_ | refine R.ret hS ?_ | refine R.fin hS ?_ | refine R.begin hS ?_ | refine R.endRound hS ?_ | refine R.retRound hS ?_ | refine R.retC hS ?_ | refine R.endRangeDone hS ?_ | refine R.endRangeRet hS ?_)
                    refine hc _ _ ⟨?_, Ext0.out⟩
                    have hm : marksE l lh lm = 1 := by rw [hq, marksE, if_neg hh, if_pos hs]
                    simp only [resOf, checkV, if_neg k1, if_neg k2, if_neg k3, if_neg k4, if_neg k5, hm]
                    rfl
                  · have hs : ¬ spansV (Mk.at lm i).lo (Mk.at lm i).hi 2000 = false := by have := hF.out; rw [Bool.not_eq_false'] at this; rw [show spansV (Mk.at lm i).lo (Mk.at lm i).hi 2000 = true from this]; simp
                    repeat (first | refine hS.seq ?_ | refine hS.regionW ?_ | refine W.pop ?_ | refine W.yes ?_ | refine W.no ?_ | refine W.box (fun _ _ => ?_) | refine W.alloc (fun _ _ => ?_) | refine W.store ?_ | refine W.bs (fun _ _ => ?_) | refine W.fn hS (fun _ _ => ?_) | refine WL.nil ?_ | refine R.condT hS ?_ | refine R.condF hS ?_ | refine hS.skip ?_ | refine hS.block ?_ | refine hS.inBlock ?_ | refine R.ret hS ?_ | refine R.fin hS ?_ | refine R.begin hS ?_ | refine R.endRound hS ?_ | refine R.retRound hS ?_ | refine R.retC hS ?_ | refine R.endRangeDone hS ?_ | refine R.endRangeRet hS ?_)
                    refine hS.inLoop ?_
                    refine ih (i + 1) _ _ (by omega) ⟨hlt, inferInstance, inferInstance, inferInstance, by have e : ((i + 1 : Nat) : Int) = (i : Int) + 1 := (by omega); rw [e]; infer_instance, inferInstance, inferInstance, ?_⟩
                    rw [hq, marksE, if_neg hh, if_neg hs]
              · have t1 : IsC (decide ((i : Int) < (lm.length : Int))) false := ⟨by simp; omega⟩
                have ei : i = lm.length := by omega
                subst ei
                have k6 : ¬ marksE l lh lm ≠ 0 := by rw [hq, List.drop_length, marksE]; simp
                repeat (first | refine hS.seq ?_ | refine hS.regionW ?_ | refine W.pop ?_ | refine W.yes ?_ | refine W.no ?_ | refine W.box (fun _ _ => ?_) | refine W.alloc (fun _ _ => ?_) | refine W.store ?_ | refine W.bs (fun _ _ => ?_) | refine W.fn hS (fun _ _ => ?_) | refine WL.nil ?_ | refine R.condT hS ?_ | refine R.condF hS ?_ | refine hS.skip ?_ | refine hS.block ?_ | refine hS.inBlock ?_ | refine R.ret hS ?_ | refine R.fin hS ?_ | refine R.begin hS ?_ | refine R.endRound hS ?_ | refine R.retRound hS ?_ | refine R.retC hS ?_ | refine R.endRangeDone hS ?_ | refine R.endRangeRet hS ?_)
                refine hS.exit rfl ?_
                repeat (first | refine hS.seq ?_ | refine hS.regionW ?_ | refine W.pop ?_ | refine W.yes ?_ | refine W.no ?_ | refine W.box (fun _ _ => ?_) | refine W.alloc (fun _ _ => ?_) | refine W.store ?_ | refine W.bs (fun _ _ => ?_) | refine W.fn hS (fun _ _ => ?_) | refine WL.nil ?_ | refine R.condT hS ?_ | refine R.condF hS ?_ | refine hS.skip ?_ | refine hS.block ?_ | refine hS.inBlock ?_ | refine R.ret hS ?_ | refine R.fin hS ?_ | refine R.begin hS ?_ | refine R.endRound hS ?_ | refine R.retRound hS ?_ | refine R.retC hS ?_ | refine R.endRangeDone hS ?_ | refine R.endRangeRet hS ?_)
                clear ih
                refine hS.loop ?_
                refine loop_ind (fun (i : Nat) => lm.length - i) (fun i E h' => i ≤ lm.length ∧ LookC E 1 (.pointer (some ⟨p1, 0, none⟩)) ∧ LookC E 66 vm ∧ LookC E 67 (.int .i64 lm.length) ∧ LookC E 68 (.int .i64 (i : Nat)) ∧ Ext0 h h' ∧ HGC h' p1 (.cells (List.toArray [vo, vh, .int .i64 st, .int .i64 lo, .int .i64 hi, vm]) 30 (0, 0)) ∧ ∀ j, j < i → (decide (0 < j) && decide (orderV (Mk.at lm (j - 1)).u (Mk.at lm (j - 1)).v (Mk.at lm j).u (Mk.at lm j).v ≥ 0)) = false) ?_ 0 _ _ ⟨Nat.zero_le _, inferInstance, inferInstance, inferInstance, inferInstance, inferInstance, inferInstance, fun j hj => by omega⟩
                rintro i E h' ⟨hile, l1, l66, l67, l68, hx, g1, hq⟩ ih
                by_cases hlt : i < lm.length
                · have ix := ixm_at hlt
                  have t1 : IsC (decide ((i : Int) < (lm.length : Int))) true := ⟨by simp [hlt]⟩
                  have nw : NoW ((i : Int) + 1) := NoW.of (by omega) (by omega)
                  by_cases h0 : 0 < i
                  · have t2 : IsC (decide ((i : Int) > 0)) true := ⟨by simp [h0]⟩
                    have nw2 : NoW ((i : Int) - 1) := NoW.of (by omega) (by omega)
                    have nn : NatC ((i : Int) - 1) (i - 1) := ⟨by omega⟩
                    have iy := ixm_at (l := lm) (i := i - 1) (by omega)
                    repeat (first | refine hS.seq ?_ | refine hS.regionW ?_ | refine W.pop ?_ | refine W.yes ?_ | refine W.no ?_ | refine W.box (fun _ _ => ?_) | refine W.alloc (fun _ _ => ?_) | refine W.store ?_ | refine W.bs (fun _ _ => ?_) | refine W.fn hS (fun _ _ => ?_) | refine WL.nil ?_ | refine R.condT hS ?_ | refine R.condF hS ?_ | refine hS.skip ?_ | refine hS.block ?_ | refine hS.inBlock ?_ | refine R.ret hS ?_ | refine R.fin hS ?_ | refine R.begin hS ?_ | refine R.endRound hS ?_ | refine R.retRound hS ?_ | refine R.retC hS ?_ | refine R.endRangeDone hS ?_ | refine R.endRangeRet hS ?_)
                    refine hS.regionA mixed [] ?_
                    refine A.take 0 rfl (by kernel_rfl) (by intro _ _ e; cases e) ?_
                    refine A.take 1 rfl (by kernel_rfl) (by intro _ _ e; cases e) ?_
                    refine A.take 2 rfl (by kernel_rfl) (by intro _ _ e; cases e) ?_
                    first | (refine A.takeN 3 rfl (by kernel_rfl) (by intro _ _ e; cases e) ?_) | (refine A.takeY 3 rfl (by kernel_rfl) (by intro _ _ e; cases e) ?_)
                    first | (refine A.takeN 4 rfl (by kernel_rfl) (by intro _ _ e; cases e) ?_) | (refine A.takeY 4 rfl (by kernel_rfl) (by intro _ _ e; cases e) ?_)
                    first | (refine A.takeN 5 rfl (by kernel_rfl) (by intro _ _ e; cases e) ?_) | (refine A.takeY 5 rfl (by kernel_rfl) (by intro _ _ e; cases e) ?_)
                    first | (refine A.takeN 6 rfl (by kernel_rfl) (by intro _ _ e; cases e) ?_) | (refine A.takeY 6 rfl (by kernel_rfl) (by intro _ _ e; cases e) ?_)
                    first | (refine A.takeN 7 rfl (by kernel_rfl) (by intro _ _ e; cases e) ?_) | (refine A.takeY 7 rfl (by kernel_rfl) (by intro _ _ e; cases e) ?_)
                    first | (refine A.takeN 8 rfl (by kernel_rfl) (by intro _ _ e; cases e) ?_) | (refine A.takeY 8 rfl (by kernel_rfl) (by intro _ _ e; cases e) ?_)
                    first | (refine A.takeN 9 rfl (by kernel_rfl) (by intro _ _ e; cases e) ?_) | (refine A.takeY 9 rfl (by kernel_rfl) (by intro _ _ e; cases e) ?_)
                    first | (refine A.takeN 10 rfl (by kernel_rfl) (by intro _ _ e; cases e) ?_) | (refine A.takeY 10 rfl (by kernel_rfl) (by intro _ _ e; cases e) ?_)
                    first | (refine A.takeN 11 rfl (by kernel_rfl) (by intro _ _ e; cases e) ?_) | (refine A.takeY 11 rfl (by kernel_rfl) (by intro _ _ e; cases e) ?_)
                    refine A.one 12 rfl (by kernel_rfl) ?_
                    first | (refine W.no ?_) | (refine W.yes ?_; first | refine W.pop ?_ | refine W.fn hS (fun _ _ => ?_) | refine W.bs (fun _ _ => ?_) | refine W.box (fun _ _ => ?_) | refine W.alloc (fun _ _ => ?_) | refine W.store ?_)
                    refine A.soft ?_
                    first | (refine A.takeN 13 rfl (by kernel_rfl) (by intro _ _ e; cases e) ?_) | (refine A.takeY 13 rfl (by kernel_rfl) (by intro _ _ e; cases e) ?_)
                    refine A.take 14 rfl (by kernel_rfl) (by intro _ _ e; cases e) ?_
                    refine Any.done (by kernel_rfl) ?_
                    repeat (first | refine hS.seq ?_ | refine hS.regionW ?_ | refine W.pop ?_ | refine W.yes ?_ | refine W.no ?_ | refine W.box (fun _ _ => ?_) | refine W.alloc (fun _ _ => ?_) | refine W.store ?_ | refine W.bs (fun _ _ => ?_) | refine W.fn hS (fun _ _ => ?_) | refine WL.nil ?_ | refine R.condT hS ?_ | refine R.condF hS ?_ | refine hS.skip ?_ | refine hS.block ?_ | refine hS.inBlock ?_ | refine R.ret hS ?_ | refine R.fin hS ?_ | refine R.begin hS ?_ | refine R.endRound hS ?_ | refine R.retRound hS ?_ | refine R.retC hS ?_ | refine R.endRangeDone hS ?_ | refine R.endRangeRet hS ?_)
                    refine R.cond hS (fun hT => ?_) (fun hF => ?_)
                    · have hb : badOrd lm = true := by
                        rw [badOrd, List.any_eq_true]
                        exact ⟨i, by simpa using hlt, by rw [Bool.and_eq_true]; exact ⟨by simpa using h0, hT.out⟩⟩
                      repeat (first | refine hS.seq ?_ | refine hS.regionW ?_ | refine W.pop ?_ | refine W.yes ?_ | refine W.no ?_ | refine W.box (fun _ _ => ?_) | refine W.alloc (fun _ _ => ?_) | refine W.store ?_ | refine W.bs (fun _ _ => ?_) | refine W.fn hS (fun _ _ => ?_) | refine WL.nil ?_ | refine R.condT hS ?_ | refine R.condF hS ?_ | refine hS.skip ?_ | refine hS.block ?_ | refine hS.inBlock ?_ | refine R.ret hS ?_ | refine R.fin hS ?_ | refine R.begin hS ?_ | refine R.endRound hS ?_ | refine R.retRound hS ?_ | refine R.retC hS ?_ | refine R.endRangeDone hS ?_ | refine R.endRangeRet hS ?_)
                      refine hc _ _ ⟨?_, Ext0.out⟩
                      simp only [resOf, checkV, if_neg k1, if_neg k2, if_neg k3, if_neg k4, if_neg k5, if_neg k6, if_pos hb]
                    · repeat (first | refine hS.seq ?_ | refine hS.regionW ?_ | refine W.pop ?_ | refine W.yes ?_ | refine W.no ?_ | refine W.box (fun _ _ => ?_) | refine W.alloc (fun _ _ => ?_) | refine W.store ?_ | refine W.bs (fun _ _ => ?_) | refine W.fn hS (fun _ _ => ?_) | refine WL.nil ?_ | refine R.condT hS ?_ | refine R.condF hS ?_ | refine hS.skip ?_ | refine hS.block ?_ | refine hS.inBlock ?_ | refine R.ret hS ?_ | refine R.fin hS ?_ | refine R.begin hS ?_ | refine R.endRound hS ?_ | refine R.retRound hS ?_ | refine R.retC hS ?_ | refine R.endRangeDone hS ?_ | refine R.endRangeRet hS ?_)
                      refine hS.inLoop ?_
                      refine ih (i + 1) _ _ (by omega) ⟨hlt, inferInstance, inferInstance, inferInstance, by have e : ((i + 1 : Nat) : Int) = (i : Int) + 1 := (by omega); rw [e]; infer_instance, inferInstance, inferInstance, ?_⟩
                      intro j hj
                      by_cases ej : j = i
                      · subst ej; rw [Bool.and_eq_false_iff]; exact .inr hF.out
                      · exact hq j (by omega)
                  · have t2 : IsC (decide ((i : Int) > 0)) false := ⟨by simp; omega⟩
                    repeat (first | refine hS.seq ?_ | refine hS.regionW ?_ | refine W.pop ?_ | refine W.yes ?_ | refine W.no ?_ | refine W.box (fun _ _ => ?_) | refine W.alloc (fun _ _ => ?_) | refine W.store ?_ | refine W.bs (fun _ _ => ?_) | refine W.fn hS (fun _ _ => ?_) | refine WL.nil ?_ | refine R.condT hS ?_ | refine R.condF hS ?_ | refine hS.skip ?_ | refine hS.block ?_ | refine hS.inBlock ?_ | refine R.ret hS ?_ | refine R.fin hS ?_ | refine R.begin hS ?_ | refine R.endRound hS ?_ | refine R.retRound hS ?_ | refine R.retC hS ?_ | refine R.endRangeDone hS ?_ | refine R.endRangeRet hS ?_)
                    refine hS.regionA mixed [] ?_
                    refine A.take 0 rfl (by kernel_rfl) (by intro _ _ e; cases e) ?_
                    refine A.take 1 rfl (by kernel_rfl) (by intro _ _ e; cases e) ?_
                    refine A.take 2 rfl (by kernel_rfl) (by intro _ _ e; cases e) ?_
                    first | (refine A.takeN 3 rfl (by kernel_rfl) (by intro _ _ e; cases e) ?_) | (refine A.takeY 3 rfl (by kernel_rfl) (by intro _ _ e; cases e) ?_)
                    first | (refine A.takeN 4 rfl (by kernel_rfl) (by intro _ _ e; cases e) ?_) | (refine A.takeY 4 rfl (by kernel_rfl) (by intro _ _ e; cases e) ?_)
                    first | (refine A.takeN 5 rfl (by kernel_rfl) (by intro _ _ e; cases e) ?_) | (refine A.takeY 5 rfl (by kernel_rfl) (by intro _ _ e; cases e) ?_)
                    first | (refine A.takeN 6 rfl (by kernel_rfl) (by intro _ _ e; cases e) ?_) | (refine A.takeY 6 rfl (by kernel_rfl) (by intro _ _ e; cases e) ?_)
                    first | (refine A.takeN 7 rfl (by kernel_rfl) (by intro _ _ e; cases e) ?_) | (refine A.takeY 7 rfl (by kernel_rfl) (by intro _ _ e; cases e) ?_)
                    first | (refine A.takeN 8 rfl (by kernel_rfl) (by intro _ _ e; cases e) ?_) | (refine A.takeY 8 rfl (by kernel_rfl) (by intro _ _ e; cases e) ?_)
                    first | (refine A.takeN 9 rfl (by kernel_rfl) (by intro _ _ e; cases e) ?_) | (refine A.takeY 9 rfl (by kernel_rfl) (by intro _ _ e; cases e) ?_)
                    first | (refine A.takeN 10 rfl (by kernel_rfl) (by intro _ _ e; cases e) ?_) | (refine A.takeY 10 rfl (by kernel_rfl) (by intro _ _ e; cases e) ?_)
                    first | (refine A.takeN 11 rfl (by kernel_rfl) (by intro _ _ e; cases e) ?_) | (refine A.takeY 11 rfl (by kernel_rfl) (by intro _ _ e; cases e) ?_)
                    refine A.one 12 rfl (by kernel_rfl) ?_
                    first | (refine W.no ?_) | (refine W.yes ?_; first | refine W.pop ?_ | refine W.fn hS (fun _ _ => ?_) | refine W.bs (fun _ _ => ?_) | refine W.box (fun _ _ => ?_) | refine W.alloc (fun _ _ => ?_) | refine W.store ?_)
                    refine A.soft ?_
                    first | (refine A.takeN 13 rfl (by kernel_rfl) (by intro _ _ e; cases e) ?_) | (refine A.takeY 13 rfl (by kernel_rfl) (by intro _ _ e; cases e) ?_)
                    refine A.take 14 rfl (by kernel_rfl) (by intro _ _ e; cases e) ?_
                    refine Any.done (by kernel_rfl) ?_
                    repeat (first | refine hS.seq ?_ | refine hS.regionW ?_ | refine W.pop ?_ | refine W.yes ?_ | refine W.no ?_ | refine W.box (fun _ _ => ?_) | refine W.alloc (fun _ _ => ?_) | refine W.store ?_ | refine W.bs (fun _ _ => ?_) | refine W.fn hS (fun _ _ => ?_) | refine WL.nil ?_ | refine R.condT hS ?_ | refine R.condF hS ?_ | refine hS.skip ?_ | refine hS.block ?_ | refine hS.inBlock ?_ | refine R.ret hS ?_ | refine R.fin hS ?_ | refine R.begin hS ?_ | refine R.endRound hS ?_ | refine R.retRound hS ?_ | refine R.retC hS ?_ | refine R.endRangeDone hS ?_ | refine R.endRangeRet hS ?_)
                    refine hS.inLoop ?_
                    refine ih (i + 1) _ _ (by omega) ⟨hlt, inferInstance, inferInstance, inferInstance, by have e : ((i + 1 : Nat) : Int) = (i : Int) + 1 := (by omega); rw [e]; infer_instance, inferInstance, inferInstance, ?_⟩
                    intro j hj
                    have ej : ¬ 0 < j := by omega
                    simp [ej]
                · have t1 : IsC (decide ((i : Int) < (lm.length : Int))) false := ⟨by simp; omega⟩
                  have ei : i = lm.length := by omega
                  subst ei
                  have k7 : ¬ badOrd lm = true := by
                    rw [badOrd, Bool.not_eq_true, List.any_eq_false]
                    intro j hj
                    rw [hq j (by simpa using hj)]; simp
                  repeat (first | refine hS.seq ?_ | refine hS.regionW ?_ | refine W.pop ?_ | refine W.yes ?_ | refine W.no ?_ | refine W.box (fun _ _ => ?_) | refine W.alloc (fun _ _ => ?_) | refine W.store ?_ | refine W.bs (fun _ _ => ?_) | refine W.fn hS (fun _ _ => ?_) | refine WL.nil ?_ | refine R.condT hS ?_ | refine R.condF hS ?_ | refine hS.skip ?_ | refine hS.block ?_ | refine hS.inBlock ?_ | refine R.ret hS ?_ | refine R.fin hS ?_ | refine R.begin hS ?_ | refine R.endRound hS ?_ | refine R.retRound hS ?_ | refine R.retC hS ?_ | refine R.endRangeDone hS ?_ | refine R.endRangeRet hS ?_)
                  refine hS.exit rfl ?_
                  repeat (first | refine hS.seq ?_ | refine hS.regionW ?_ | refine W.pop ?_ | refine W.yes ?_ | refine W.no ?_ | refine W.box (fun _ _ => ?_) | refine W.alloc (fun _ _ => ?_) | refine W.store ?_ | refine W.bs (fun _ _ => ?_) | refine W.fn hS (fun _ _ => ?_) | refine WL.nil ?_ | refine R.condT hS ?_ | refine R.condF hS ?_ | refine hS.skip ?_ | refine hS.block ?_ | refine hS.inBlock ?_ | refine R.ret hS ?_ | refine R.fin hS ?_ | refine R.begin hS ?_ | refine R.endRound hS ?_ | refine R.retRound hS ?_ | refine R.retC hS ?_ | refine R.endRangeDone hS ?_ | refine R.endRangeRet hS ?_)
                  clear ih
                  refine hS.loop ?_
                  refine loop_ind (fun (i : Nat) => lm.length - i) (fun i E h' => i ≤ lm.length ∧ LookC E 1 (.pointer (some ⟨p1, 0, none⟩)) ∧ LookC E 90 vm ∧ LookC E 91 (.int .i64 lm.length) ∧ LookC E 92 (.int .i64 (i : Nat)) ∧ Ext0 h h' ∧ HGC h' p1 (.cells (List.toArray [vo, vh, .int .i64 st, .int .i64 lo, .int .i64 hi, vm]) 30 (0, 0)) ∧ ∀ m ∈ lm.take i, clash st lo hi lm m = false) ?_ 0 _ _ ⟨Nat.zero_le _, inferInstance, inferInstance, inferInstance, inferInstance, inferInstance, inferInstance, by simp⟩
                  rintro i E h' ⟨hile, l1, l90, l91, l92, hx, g1, hq⟩ ih
                  by_cases hlt : i < lm.length
                  · have ix := ixm_at hlt
                    have t1 : IsC (decide ((i : Int) < (lm.length : Int))) true := ⟨by simp [hlt]⟩
                    have nw : NoW ((i : Int) + 1) := NoW.of (by omega) (by omega)
                    repeat (first | refine hS.seq ?_ | refine hS.regionW ?_ | refine W.pop ?_ | refine W.yes ?_ | refine W.no ?_ | refine W.box (fun _ _ => ?_) | refine W.alloc (fun _ _ => ?_) | refine W.store ?_ | refine W.bs (fun _ _ => ?_) | refine W.fn hS (fun _ _ => ?_) | refine WL.nil ?_ | refine R.condT hS ?_ | refine R.condF hS ?_ | refine hS.skip ?_ | refine hS.block ?_ | refine hS.inBlock ?_ | refine R.ret hS ?_ | refine R.fin hS ?_ | refine R.begin hS ?_ | refine R.endRound hS ?_ | refine R.retRound hS ?_ | refine R.retC hS ?_ | refine R.endRangeDone hS ?_ | refine R.endRangeRet hS ?_)
                    refine R.cond hS (fun hT => ?_) (fun hF => ?_)
                    · have hb : lm.any (clash st lo hi lm) = true := by
                        rw [List.any_eq_true]
                        exact ⟨Mk.at lm i, List.mem_of_getElem? ix.out, hT.out⟩
                      repeat (first | refine hS.seq ?_ | refine hS.regionW ?_ | refine W.pop ?_ | refine W.yes ?_ | refine W.no ?_ | refine W.box (fun _ _ => ?_) | refine W.alloc (fun _ _ => ?_) | refine W.store ?_ | refine W.bs (fun _ _ => ?_) | refine W.fn hS (fun _ _ => ?_) | refine WL.nil ?_ | refine R.condT hS ?_ | refine R.condF hS ?_ | refine hS.skip ?_ | refine hS.block ?_ | refine hS.inBlock ?_ | refine R.ret hS ?_ | refine R.fin hS ?_ | refine R.begin hS ?_ | refine R.endRound hS ?_ | refine R.retRound hS ?_ | refine R.retC hS ?_ | refine R.endRangeDone hS ?_ | refine R.endRangeRet hS ?_)
                      refine hc _ _ ⟨?_, Ext0.out⟩
                      simp only [resOf, checkV, if_neg k1, if_neg k2, if_neg k3, if_neg k4, if_neg k5, if_neg k6, if_neg k7, if_pos hb]
                    · repeat (first | refine hS.seq ?_ | refine hS.regionW ?_ | refine W.pop ?_ | refine W.yes ?_ | refine W.no ?_ | refine W.box (fun _ _ => ?_) | refine W.alloc (fun _ _ => ?_) | refine W.store ?_ | refine W.bs (fun _ _ => ?_) | refine W.fn hS (fun _ _ => ?_) | refine WL.nil ?_ | refine R.condT hS ?_ | refine R.condF hS ?_ | refine hS.skip ?_ | refine hS.block ?_ | refine hS.inBlock ?_ | refine R.ret hS ?_ | refine R.fin hS ?_ | refine R.begin hS ?_ | refine R.endRound hS ?_ | refine R.retRound hS ?_ | refine R.retC hS ?_ | refine R.endRangeDone hS ?_ | refine R.endRangeRet hS ?_)
                      refine hS.inLoop ?_
                      refine ih (i + 1) _ _ (by omega) ⟨hlt, inferInstance, inferInstance, inferInstance, by have e : ((i + 1 : Nat) : Int) = (i : Int) + 1 := (by omega); rw [e]; infer_instance, inferInstance, inferInstance, ?_⟩
                      intro m hm
                      rw [List.take_succ_eq_append_getElem hlt] at hm
                      rcases List.mem_append.1 hm with hm | hm
                      · exact hq m hm
                      · rw [List.mem_singleton.1 hm]
                        have e : lm[i] = Mk.at lm i := by simp [Mk.at, hlt]
                        rw [e]; exact hF.out
                  · have t1 : IsC (decide ((i : Int) < (lm.length : Int))) false := ⟨by simp; omega⟩
                    have ei : i = lm.length := by omega
                    subst ei
                    have k8 : ¬ lm.any (clash st lo hi lm) = true := by
                      rw [List.take_length] at hq
                      rw [Bool.not_eq_true, List.any_eq_false]
                      intro m hm
                      rw [hq m hm]; simp
                    repeat (first | refine hS.seq ?_ | refine hS.regionW ?_ | refine W.pop ?_ | refine W.yes ?_ | refine W.no ?_ | refine W.box (fun _ _ => ?_) | refine W.alloc (fun _ _ => ?_) | refine W.store ?_ | refine W.bs (fun _ _ => ?_) | refine W.fn hS (fun _ _ => ?_) | refine WL.nil ?_ | refine R.condT hS ?_ | refine R.condF hS ?_ | refine hS.skip ?_ | refine hS.block ?_ | refine hS.inBlock ?_ | refine R.ret hS ?_ | refine R.fin hS ?_ | refine R.begin hS ?_ | refine R.endRound hS ?_ | refine R.retRound hS ?_ | refine R.retC hS ?_ | refine R.endRangeDone hS ?_ | refine R.endRangeRet hS ?_)
                    refine hS.exit rfl ?_
                    repeat (first | refine hS.seq ?_ | refine hS.regionW ?_ | refine W.pop ?_ | refine W.yes ?_ | refine W.no ?_ | refine W.box (fun _ _ => ?_) | refine W.alloc (fun _ _ => ?_) | refine W.store ?_ | refine W.bs (fun _ _ => ?_) | refine W.fn hS (fun _ _ => ?_) | refine WL.nil ?_ | refine R.condT hS ?_ | refine R.condF hS ?_ | refine hS.skip ?_ | refine hS.block ?_ | refine hS.inBlock ?_ | refine R.ret hS ?_ | refine R.fin hS ?_ | refine R.begin hS ?_ | refine R.endRound hS ?_ | refine R.retRound hS ?_ | refine R.retC hS ?_ | refine R.endRangeDone hS ?_ | refine R.endRangeRet hS ?_)
                    refine hc _ _ ⟨?_, Ext0.out⟩
                    simp only [resOf, checkV, if_neg k1, if_neg k2, if_neg k3, if_neg k4, if_neg k5, if_neg k6, if_neg k7, if_neg k8]
end Go.Proofs.YtankmjkogcbnfaaDoor
/-
  The contracts of wear.Bounds, thatchlaw07.Great, wear.Rate.
-/
namespace Go.Proofs.YtankmjkogcbnfaaDoor
open Go Go.SL Go.Conc
attribute [local irreducible] putE ofL Look Nth Ev HG Own SubL Wr Sgl EvL LH.upd WL OpS Any Con PopW Pop
/-- What Bounds returns: low, high, the error. -/
def boundsE (l : List Pt) (lh : List Bx) (st lo hi : Int) (lm : List Mk) (a b : Int) : Int × Int × Int :=
  if checkV l lh st lo hi lm ≠ 0 then (0, 0, checkV l lh st lo hi lm)
  else if hasV l lh ⟨a, b⟩ = false then (0, 0, 7)
  else ((boundsV st lo hi lm a b).1, (boundsV st lo hi lm a b).2, 0)
instance c10 {l : List Pt} {lh : List Bx} {lm : List Mk} {vo vh vm : Value} {st lo hi a b : Int} {h : LH} [so : SingleC vo] [sh : SingleC vh] [sm : SingleC vm] [hvo : SlC h 2 vo (l.map Pt.c)] [hvh : SlC h 4 vh (lh.map Bx.cs)] [hvm : SlC h 4 vm (lm.map Mk.c)]
    [hn : GtC l.length 4611686018427387904] [hn2 : GtC lh.length 4611686018427387904] [hn3 : GtC lm.length 4611686018427387904] :
    FnC Tryd.prog 10 [.agg #[vo, vh, .int .i64 st, .int .i64 lo, .int .i64 hi, vm], .agg #[.int .i64 a, .int .i64 b]] h
      (.tuple (List.toArray [.agg (List.toArray [.int .i64 (boundsE l lh st lo hi lm a b).1, .int .i64 (boundsE l lh st lo hi lm a b).2.1]), .int .i64 (boundsE l lh st lo hi lm a b).2.2])) := by
  have hvo' : SlAt h 2 vo (l.map Pt.c) := ⟨hvo.out⟩
  have hvh' : SlAt h 4 vh (lh.map Bx.cs) := ⟨hvh.out⟩
  have hvm' : SlAt h 4 vm (lm.map Mk.c) := ⟨hvm.out⟩
  refine ⟨Con.intro (m := 2) Tryd.func10 rfl Tryd.ntmps10 rfl (by decide) ?_⟩
  intro main S hS c cs hc
  repeat (first | refine hS.seq ?_ | refine hS.regionW ?_ | refine W.pop ?_ | refine W.yes ?_ | refine W.no ?_ | refine W.box (fun _ _ => ?_) | refine W.alloc (fun _ _ => ?_) | refine W.store ?_ | refine W.bs (fun _ _ => ?_) | refine W.fn hS (fun _ _ => ?_) | refine WL.nil ?_ | refine R.condT hS ?_ | refine R.condF hS ?_ | refine hS.skip ?_ | refine hS.block ?_ | refine hS.inBlock ?_ | refine R.ret hS ?_ | refine R.fin hS ?_ | refine R.begin hS ?_ | refine R.endRound hS ?_ | refine R.retRound hS ?_ | refine R.retC hS ?_ | refine R.endRangeDone hS ?_ | refine R.endRangeRet hS ?_)
  refine R.cond hS (fun hT => ?_) (fun hF => ?_)
  · repeat (first | refine hS.seq ?_ | refine hS.regionW ?_ | refine W.pop ?_ | refine W.yes ?_ | refine W.no ?_ | refine W.box (fun _ _ => ?_) | refine W.alloc (fun _ _ => ?_) | refine W.store ?_ | refine W.bs (fun _ _ => ?_) | refine W.fn hS (fun _ _ => ?_) | refine WL.nil ?_ | refine R.condT hS ?_ | refine R.condF hS ?_ | refine hS.skip ?_ | refine hS.block ?_ | refine hS.inBlock ?_ | refine R.ret hS ?_ | refine R.fin hS ?_ | refine R.begin hS ?_ | refine R.endRound hS ?_ | refine R.retRound hS ?_ | refine R.retC hS ?_ | refine R.endRangeDone hS ?_ | refine R.endRangeRet hS ?_)
    refine hc _ _ ⟨?_, Ext0.out⟩
    have k : checkV l lh st lo hi lm ≠ 0 := by have := hT.out; simpa using this
    simp only [resOf, boundsE, if_pos k]
  · have k : ¬ checkV l lh st lo hi lm ≠ 0 := by have := hF.out; simpa using this
    repeat (first | refine hS.seq ?_ | refine hS.regionW ?_ | refine W.pop ?_ | refine W.yes ?_ | refine W.no ?_ | refine W.box (fun _ _ => ?_) | refine W.alloc (fun _ _ => ?_) | refine W.store ?_ | refine W.bs (fun _ _ => ?_) | refine W.fn hS (fun _ _ => ?_) | refine WL.nil ?_ | refine R.condT hS ?_ | refine R.condF hS ?_ | refine hS.skip ?_ | refine hS.block ?_ | refine hS.inBlock ?_ | refine R.ret hS ?_ | refine R.fin hS ?_ | refine R.begin hS ?_ | refine R.endRound hS ?_ | refine R.retRound hS ?_ | refine R.retC hS ?_ | refine R.endRangeDone hS ?_ | refine R.endRangeRet hS ?_)
    refine R.cond hS (fun hT => ?_) (fun hF => ?_)
    · repeat (first | refine hS.seq ?_ | refine hS.regionW ?_ | refine W.pop ?_ | refine W.yes ?_ | refine W.no ?_ | refine W.box (fun _ _ => ?_) | refine W.alloc (fun _ _ => ?_) | refine W.store ?_ | refine W.bs (fun _ _ => ?_) | refine W.fn hS (fun _ _ => ?_) | refine WL.nil ?_ | refine R.condT hS ?_ | refine R.condF hS ?_ | refine hS.skip ?_ | refine hS.block ?_ | refine hS.inBlock ?_ | refine R.ret hS ?_ | refine R.fin hS ?_ | refine R.begin hS ?_ | refine R.endRound hS ?_ | refine R.retRound hS ?_ | refine R.retC hS ?_ | refine R.endRangeDone hS ?_ | refine R.endRangeRet hS ?_)
      refine hc _ _ ⟨?_, Ext0.out⟩
      have k2 : hasV l lh ⟨a, b⟩ = false := by have := hT.out; rw [Bool.not_eq_true'] at this; exact this
      simp only [resOf, boundsE, if_neg k, if_pos k2]
    · repeat (first | refine hS.seq ?_ | refine hS.regionW ?_ | refine W.pop ?_ | refine W.yes ?_ | refine W.no ?_ | refine W.box (fun _ _ => ?_) | refine W.alloc (fun _ _ => ?_) | refine W.store ?_ | refine W.bs (fun _ _ => ?_) | refine W.fn hS (fun _ _ => ?_) | refine WL.nil ?_ | refine R.condT hS ?_ | refine R.condF hS ?_ | refine hS.skip ?_ | refine hS.block ?_ | refine hS.inBlock ?_ | refine R.ret hS ?_ | refine R.fin hS ?_ | refine R.begin hS ?_ | refine R.endRound hS ?_ | refine R.retRound hS ?_ | refine R.retC hS ?_ | refine R.endRangeDone hS ?_ | refine R.endRangeRet hS ?_)
      refine hc _ _ ⟨?_, Ext0.out⟩
      have k2 : ¬ hasV l lh ⟨a, b⟩ = false := by have := hF.out; rw [Bool.not_eq_false'] at this; rw [this]; simp
      simp only [resOf, boundsE, if_neg k, if_neg k2]

def longV (n : Int) : Bool := decide (n < -9999999999 ∨ n > 9999999999)
def greatV (l : List Pt) (lh : List Bx) (lm : List Mk) : Bool := decide (l.length > 30) || decide (lh.length > 30) || decide (lm.length > 60) || lh.any fun x => longV x.a || longV x.b || longV x.c || longV x.d
instance c7 {l : List Pt} {lh : List Bx} {lm : List Mk} {vo vh vm : Value} {st lo hi : Int} {h : LH} [so : SingleC vo] [sh : SingleC vh] [sm : SingleC vm] [hvo : SlC h 2 vo (l.map Pt.c)] [hvh : SlC h 4 vh (lh.map Bx.cs)] [hvm : SlC h 4 vm (lm.map Mk.c)] :
    FnC Tryd.prog 7 [.agg #[vo, vh, .int .i64 st, .int .i64 lo, .int .i64 hi, vm]] h (.bool (greatV l lh lm)) := by
  have hvo' : SlAt h 2 vo (l.map Pt.c) := ⟨hvo.out⟩
  have hvh' : SlAt h 4 vh (lh.map Bx.cs) := ⟨hvh.out⟩
  have hvm' : SlAt h 4 vm (lm.map Mk.c) := ⟨hvm.out⟩
  refine ⟨Con.intro (m := 1) Tryd.func7 rfl Tryd.ntmps7 rfl (by decide) ?_⟩
  intro main S hS c cs hc
  repeat (first | refine hS.seq ?_ | refine hS.regionW ?_ | refine W.pop ?_ | refine W.yes ?_ | refine W.no ?_ | refine W.box (fun _ _ => ?_) | refine W.alloc (fun _ _ => ?_) | refine W.store ?_ | refine W.bs (fun _ _ => ?_) | refine W.fn hS (fun _ _ => ?_) | refine WL.nil ?_ | refine R.condT hS ?_ | refine R.condF hS ?_ | refine hS.skip ?_ | refine hS.block ?_ | refine hS.inBlock ?_ | refine R.ret hS ?_ | refine R.fin hS ?_ | refine R.begin hS ?_ | refine R.endRound hS ?_ | refine R.retRound hS ?_ | refine R.retC hS ?_ | refine R.endRangeDone hS ?_ | refine R.endRangeRet hS ?_)
  rename_i p1 f1
  have fin : ∀ (hd : l.length > 30 ∨ lh.length > 30 ∨ lm.length > 60), greatV l lh lm = true := by
    intro hd
    rcases hd with h | h | h <;> simp [greatV, h]
  refine W.split (fun hT => ?_) (fun hF => ?_)
  · repeat (first | refine hS.seq ?_ | refine hS.regionW ?_ | refine W.pop ?_ | refine W.yes ?_ | refine W.no ?_ | refine W.box (fun _ _ => ?_) | refine W.alloc (fun _ _ => ?_) | refine W.store ?_ | refine W.bs (fun _ _ => ?_) | refine W.fn hS (fun _ _ => ?_) | refine WL.nil ?_ | refine R.condT hS ?_ | refine R.condF hS ?_ | refine hS.skip ?_ | refine hS.block ?_ | refine hS.inBlock ?_ | refine R.ret hS ?_ | refine R.fin hS ?_ | refine R.begin hS ?_ | refine R.endRound hS ?_ | refine R.retRound hS ?_ | refine R.retC hS ?_ | refine R.endRangeDone hS ?_ | refine R.endRangeRet hS ?_)
    refine hc _ _ ⟨?_, Ext0.out⟩
    rw [fin (.inl (by have := hT.out; simp at this; omega))]; rfl
  · have k1 : ¬ l.length > 30 := by have := hF.out; simp at this; omega
    repeat (first | refine hS.seq ?_ | refine hS.regionW ?_ | refine W.pop ?_ | refine W.yes ?_ | refine W.no ?_ | refine W.box (fun _ _ => ?_) | refine W.alloc (fun _ _ => ?_) | refine W.store ?_ | refine W.bs (fun _ _ => ?_) | refine W.fn hS (fun _ _ => ?_) | refine WL.nil ?_ | refine R.condT hS ?_ | refine R.condF hS ?_ | refine hS.skip ?_ | refine hS.block ?_ | refine hS.inBlock ?_ | refine R.ret hS ?_ | refine R.fin hS ?_ | refine R.begin hS ?_ | refine R.endRound hS ?_ | refine R.retRound hS ?_ | refine R.retC hS ?_ | refine R.endRangeDone hS ?_ | refine R.endRangeRet hS ?_)
    refine W.split (fun hT => ?_) (fun hF => ?_)
    · repeat (first | refine hS.seq ?_ | refine hS.regionW ?_ | refine W.pop ?_ | refine W.yes ?_ | refine W.no ?_ | refine W.box (fun _ _ => ?_) | refine W.alloc (fun _ _ => ?_) | refine W.store ?_ | refine W.bs (fun _ _ => ?_) | refine W.fn hS (fun _ _ => ?_) | refine WL.nil ?_ | refine R.condT hS ?_ | refine R.condF hS ?_ | refine hS.skip ?_ | refine hS.block ?_ | refine hS.inBlock ?_ | refine R.ret hS ?_ | refine R.fin hS ?_ | refine R.begin hS ?_ | refine R.endRound hS ?_ | refine R.retRound hS ?_ | refine R.retC hS ?_ | refine R.endRangeDone hS ?_ | refine R.endRangeRet hS ?_)
      refine hc _ _ ⟨?_, Ext0.out⟩
      rw [fin (.inr (.inl (by have := hT.out; simp at this; omega)))]; rfl
    · have k2 : ¬ lh.length > 30 := by have := hF.out; simp at this; omega
      repeat (first | refine hS.seq ?_ | refine hS.regionW ?_ | refine W.pop ?_ | refine W.yes ?_ | refine W.no ?_ | refine W.box (fun _ _ => ?_) | refine W.alloc (fun _ _ => ?_) | refine W.store ?_ | refine W.bs (fun _ _ => ?_) | refine W.fn hS (fun _ _ => ?_) | refine WL.nil ?_ | refine R.condT hS ?_ | refine R.condF hS ?_ | refine hS.skip ?_ | refine hS.block ?_ | refine hS.inBlock ?_ | refine R.ret hS ?_ | refine R.fin hS ?_ | refine R.begin hS ?_ | refine R.endRound hS ?_ | refine R.retRound hS ?_ | refine R.retC hS ?_ | refine R.endRangeDone hS ?_ | refine R.endRangeRet hS ?_)
      refine R.cond hS (fun hT => ?_) (fun hF => ?_)
      · repeat (first | refine hS.seq ?_ | refine hS.regionW ?_ | refine W.pop ?_ | refine W.yes ?_ | refine W.no ?_ | refine W.box (fun _ _ => ?_) | refine W.alloc (fun _ _ => ?_) | refine W.store ?_ | refine W.bs (fun _ _ => ?_) | refine W.fn hS (fun _ _ => ?_) | refine WL.nil ?_ | refine R.condT hS ?_ | refine R.condF hS ?_ | refine hS.skip ?_ | refine hS.block ?_ | refine hS.inBlock ?_ | refine R.ret hS ?_ | refine R.fin hS ?_ | refine R.begin hS ?_ | refine R.endRound hS ?_ | refine R.retRound hS ?_ | refine R.retC hS ?_ | refine R.endRangeDone hS ?_ | refine R.endRangeRet hS ?_)
        refine hc _ _ ⟨?_, Ext0.out⟩
        rw [fin (.inr (.inr (by have := hT.out; simp at this; omega)))]; rfl
      · have k3 : ¬ lm.length > 60 := by have := hF.out; simp at this; omega
        have ge : greatV l lh lm = lh.any fun x => longV x.a || longV x.b || longV x.c || longV x.d := by
          unfold greatV
          rw [decide_eq_false k1, decide_eq_false k2, decide_eq_false k3]; simp only [Bool.false_or]
        repeat (first | refine hS.seq ?_ | refine hS.regionW ?_ | refine W.pop ?_ | refine W.yes ?_ | refine W.no ?_ | refine W.box (fun _ _ => ?_) | refine W.alloc (fun _ _ => ?_) | refine W.store ?_ | refine W.bs (fun _ _ => ?_) | refine W.fn hS (fun _ _ => ?_) | refine WL.nil ?_ | refine R.condT hS ?_ | refine R.condF hS ?_ | refine hS.skip ?_ | refine hS.block ?_ | refine hS.inBlock ?_ | refine R.ret hS ?_ | refine R.fin hS ?_ | refine R.begin hS ?_ | refine R.endRound hS ?_ | refine R.retRound hS ?_ | refine R.retC hS ?_ | refine R.endRangeDone hS ?_ | refine R.endRangeRet hS ?_)
        refine hS.loop ?_
        refine loop_ind (fun (i : Nat) => lh.length - i) (fun i E h' => i ≤ lh.length ∧ LookC E 1 (.pointer (some ⟨p1, 0, none⟩)) ∧ LookC E 3 (.int .i64 (i : Nat)) ∧ Ext0 h h' ∧ HGC h' p1 (.cells (List.toArray [vo, vh, .int .i64 st, .int .i64 lo, .int .i64 hi, vm]) 30 (0, 0)) ∧ ∀ x ∈ lh.take i, (longV x.a || longV x.b || longV x.c || longV x.d) = false) ?_ 0 _ _ ⟨Nat.zero_le _, inferInstance, inferInstance, inferInstance, inferInstance, by simp⟩
        rintro i E h' ⟨hile, l1, l3, hx, g1, hq⟩ ih
        by_cases hlt : i < lh.length
        · have ix : IxC lh i lh[i] := ⟨by simp [hlt]⟩
          have t1 : IsC (decide ((i : Int) < (lh.length : Int))) true := ⟨by simp [hlt]⟩
          have nw : NoW ((i : Int) + 1) := NoW.of (by omega) (by omega)
          have yes : (longV lh[i].a || longV lh[i].b || longV lh[i].c || longV lh[i].d) = true → greatV l lh lm = true := by
            intro e
            rw [ge, List.any_eq_true]
            exact ⟨lh[i], List.getElem_mem hlt, e⟩
          have no : (longV lh[i].a || longV lh[i].b || longV lh[i].c || longV lh[i].d) = false → ∀ x ∈ lh.take (i + 1), (longV x.a || longV x.b || longV x.c || longV x.d) = false := by
            intro e x hx
            rw [List.take_succ_eq_append_getElem hlt] at hx
            rcases List.mem_append.1 hx with hx | hx
            · exact hq x hx
            · rw [List.mem_singleton.1 hx]; exact e
          have ek : ((i + 1 : Nat) : Int) = (i : Int) + 1 := by omega
          repeat (first | refine hS.seq ?_ | refine hS.regionW ?_ | refine W.pop ?_ | refine W.yes ?_ | refine W.no ?_ | refine W.box (fun _ _ => ?_) | refine W.alloc (fun _ _ => ?_) | refine W.store ?_ | refine W.bs (fun _ _ => ?_) | refine W.fn hS (fun _ _ => ?_) | refine WL.nil ?_ | refine R.condT hS ?_ | refine R.condF hS ?_ | refine hS.skip ?_ | refine hS.block ?_ | refine hS.inBlock ?_ | refine R.ret hS ?_ | refine R.fin hS ?_ | refine R.begin hS ?_ | refine R.endRound hS ?_ | refine R.retRound hS ?_ | refine R.retC hS ?_ | refine R.endRangeDone hS ?_ | refine R.endRangeRet hS ?_)
          refine W.split (fun a1 => ?_) (fun a1 => ?_)
          · repeat (first | refine hS.seq ?_ | refine hS.regionW ?_ | refine W.pop ?_ | refine W.yes ?_ | refine W.no ?_ | refine W.box (fun _ _ => ?_) | refine W.alloc (fun _ _ => ?_) | refine W.store ?_ | refine W.bs (fun _ _ => ?_) | refine W.fn hS (fun _ _ => ?_) | refine WL.nil ?_ | refine R.condT hS ?_ | refine R.condF hS ?_ | refine hS.skip ?_ | refine hS.block ?_ | refine hS.inBlock ?_ | refine R.ret hS ?_ | refine R.fin hS ?_ | refine R.begin hS ?_ | refine R.endRound hS ?_ | refine R.retRound hS ?_ | refine R.retC hS ?_ | refine R.endRangeDone hS ?_ | refine R.endRangeRet hS ?_)
            refine hc _ _ ⟨?_, Ext0.out⟩
            rw [yes (by rw [show longV lh[i].a = true from a1.out]; rfl)]; rfl
          · repeat (first | refine hS.seq ?_ | refine hS.regionW ?_ | refine W.pop ?_ | refine W.yes ?_ | refine W.no ?_ | refine W.box (fun _ _ => ?_) | refine W.alloc (fun _ _ => ?_) | refine W.store ?_ | refine W.bs (fun _ _ => ?_) | refine W.fn hS (fun _ _ => ?_) | refine WL.nil ?_ | refine R.condT hS ?_ | refine R.condF hS ?_ | refine hS.skip ?_ | refine hS.block ?_ | refine hS.inBlock ?_ | refine R.ret hS ?_ | refine R.fin hS ?_ | refine R.begin hS ?_ | refine R.endRound hS ?_ | refine R.retRound hS ?_ | refine R.retC hS ?_ | refine R.endRangeDone hS ?_ | refine R.endRangeRet hS ?_)
            refine W.split (fun a2 => ?_) (fun a2 => ?_)
            · repeat (first | refine hS.seq ?_ | refine hS.regionW ?_ | refine W.pop ?_ | refine W.yes ?_ | refine W.no ?_ | refine W.box (fun _ _ => ?_) | refine W.alloc (fun _ _ => ?_) | refine W.store ?_ | refine W.bs (fun _ _ => ?_) | refine W.fn hS (fun _ _ => ?_) | refine WL.nil ?_ | refine R.condT hS ?_ | refine R.condF hS ?_ | refine hS.skip ?_ | refine hS.block ?_ | refine hS.inBlock ?_ | refine R.ret hS ?_ | refine R.fin hS ?_ | refine R.begin hS ?_ | refine R.endRound hS ?_ | refine R.retRound hS ?_ | refine R.retC hS ?_ | refine R.endRangeDone hS ?_ | refine R.endRangeRet hS ?_)
              refine hc _ _ ⟨?_, Ext0.out⟩
              rw [yes (by rw [show longV lh[i].b = true from a2.out]; simp)]; rfl
            · repeat (first | refine hS.seq ?_ | refine hS.regionW ?_ | refine W.pop ?_ | refine W.yes ?_ | refine W.no ?_ | refine W.box (fun _ _ => ?_) | refine W.alloc (fun _ _ => ?_) | refine W.store ?_ | refine W.bs (fun _ _ => ?_) | refine W.fn hS (fun _ _ => ?_) | refine WL.nil ?_ | refine R.condT hS ?_ | refine R.condF hS ?_ | refine hS.skip ?_ | refine hS.block ?_ | refine hS.inBlock ?_ | refine R.ret hS ?_ | refine R.fin hS ?_ | refine R.begin hS ?_ | refine R.endRound hS ?_ | refine R.retRound hS ?_ | refine R.retC hS ?_ | refine R.endRangeDone hS ?_ | refine R.endRangeRet hS ?_)
              refine W.split (fun a3 => ?_) (fun a3 => ?_)
              · repeat (first | refine hS.seq ?_ | refine hS.regionW ?_ | refine W.pop ?_ | refine W.yes ?_ | refine W.no ?_ | refine W.box (fun _ _ => ?_) | refine W.alloc (fun _ _ => ?_) | refine W.store ?_ | refine W.bs (fun _ _ => ?_) | refine W.fn hS (fun _ _ => ?_) | refine WL.nil ?_ | refine R.condT hS ?_ | refine R.condF hS ?_ | refine hS.skip ?_ | refine hS.block ?_ | refine hS.inBlock ?_ | refine R.ret hS ?_ | refine R.fin hS ?_ | refine R.begin hS ?_ | refine R.endRound hS ?_ | refine R.retRound hS ?_ | refine R.retC hS ?_ | refine R.endRangeDone hS ?_ | refine R.endRangeRet hS ?_)
                refine hc _ _ ⟨?_, Ext0.out⟩
                rw [yes (by rw [show longV lh[i].c = true from a3.out]; simp)]; rfl
              · repeat (first | refine hS.seq ?_ | refine hS.regionW ?_ | refine W.pop ?_ | refine W.yes ?_ | refine W.no ?_ | refine W.box (fun _ _ => ?_) | refine W.alloc (fun _ _ => ?_) | refine W.store ?_ | refine W.bs (fun _ _ => ?_) | refine W.fn hS (fun _ _ => ?_) | refine WL.nil ?_ | refine R.condT hS ?_ | refine R.condF hS ?_ | refine hS.skip ?_ | refine hS.block ?_ | refine hS.inBlock ?_ | refine R.ret hS ?_ | refine R.fin hS ?_ | refine R.begin hS ?_ | refine R.endRound hS ?_ | refine R.retRound hS ?_ | refine R.retC hS ?_ | refine R.endRangeDone hS ?_ | refine R.endRangeRet hS ?_)
                refine R.cond hS (fun a4 => ?_) (fun a4 => ?_)
                · repeat (first | refine hS.seq ?_ | refine hS.regionW ?_ | refine W.pop ?_ | refine W.yes ?_ | refine W.no ?_ | refine W.box (fun _ _ => ?_) | refine W.alloc (fun _ _ => ?_) | refine W.store ?_ | refine W.bs (fun _ _ => ?_) | refine W.fn hS (fun _ _ => ?_) | refine WL.nil ?_ | refine R.condT hS ?_ | refine R.condF hS ?_ | refine hS.skip ?_ | refine hS.block ?_ | refine hS.inBlock ?_ | refine R.ret hS ?_ | refine R.fin hS ?_ | refine R.begin hS ?_ | refine R.endRound hS ?_ | refine R.retRound hS ?_ | refine R.retC hS ?_ | refine R.endRangeDone hS ?_ | refine R.endRangeRet hS ?_)
                  refine hc _ _ ⟨?_, Ext0.out⟩
                  rw [yes (by rw [show longV lh[i].d = true from a4.out]; simp)]; rfl
                · repeat (first | refine hS.seq ?_ | refine hS.regionW ?_ | refine W.pop ?_ | refine W.yes ?_ | refine W.no ?_ | refine W.box (fun _ _ => ?_) | refine W.alloc (fun _ _ => ?_) | refine W.store ?_ | refine W.bs (fun _ _ => ?_) | refine W.fn hS (fun _ _ => ?_) | refine WL.nil ?_ | refine R.condT hS ?_ | refine R.condF hS ?_ | refine hS.skip ?_ | refine hS.block ?_ | refine hS.inBlock ?_ | refine R.ret hS ?_ | refine R.fin hS ?_ | refine R.begin hS ?_ | refine R.endRound hS ?_ | refine R.retRound hS ?_ | refine R.retC hS ?_ | refine R.endRangeDone hS ?_ | refine R.endRangeRet hS ?_)
                  refine hS.inLoop ?_
                  refine ih (i + 1) _ _ (by omega) ?_
                  rw [ek]
                  exact ⟨hlt, inferInstance, inferInstance, inferInstance, inferInstance, no (by rw [show longV lh[i].a = false from a1.out, show longV lh[i].b = false from a2.out, show longV lh[i].c = false from a3.out, show longV lh[i].d = false from a4.out]; rfl)⟩
        · have t1 : IsC (decide ((i : Int) < (lh.length : Int))) false := ⟨by simp; omega⟩
          have ei : i = lh.length := by omega
          subst ei
          rw [List.take_length] at hq
          repeat (first | refine hS.seq ?_ | refine hS.regionW ?_ | refine W.pop ?_ | refine W.yes ?_ | refine W.no ?_ | refine W.box (fun _ _ => ?_) | refine W.alloc (fun _ _ => ?_) | refine W.store ?_ | refine W.bs (fun _ _ => ?_) | refine W.fn hS (fun _ _ => ?_) | refine WL.nil ?_ | refine R.condT hS ?_ | refine R.condF hS ?_ | refine hS.skip ?_ | refine hS.block ?_ | refine hS.inBlock ?_ | refine R.ret hS ?_ | refine R.fin hS ?_ | refine R.begin hS ?_ | refine R.endRound hS ?_ | refine R.retRound hS ?_ | refine R.retC hS ?_ | refine R.endRangeDone hS ?_ | refine R.endRangeRet hS ?_)
          refine hS.exit rfl ?_
          repeat (first | refine hS.seq ?_ | refine hS.regionW ?_ | refine W.pop ?_ | refine W.yes ?_ | refine W.no ?_ | refine W.box (fun _ _ => ?_) | refine W.alloc (fun _ _ => ?_) | refine W.store ?_ | refine W.bs (fun _ _ => ?_) | refine W.fn hS (fun _ _ => ?_) | refine WL.nil ?_ | refine R.condT hS ?_ | refine R.condF hS ?_ | refine hS.skip ?_ | refine hS.block ?_ | refine hS.inBlock ?_ | refine R.ret hS ?_ | refine R.fin hS ?_ | refine R.begin hS ?_ | refine R.endRound hS ?_ | refine R.retRound hS ?_ | refine R.retC hS ?_ | refine R.endRangeDone hS ?_ | refine R.endRangeRet hS ?_)
          refine hc _ _ ⟨?_, Ext0.out⟩
          have : greatV l lh lm = false := by
            rw [ge, List.any_eq_false]
            intro x hx
            rw [hq x hx]; simp
          rw [this]; rfl
end Go.Proofs.YtankmjkogcbnfaaDoor
/-
  The contract of wear.Season.
-/
namespace Go.Proofs.YtankmjkogcbnfaaDoor
open Go Go.SL Go.Conc
attribute [local irreducible] putE ofL Look Nth Ev HG Own SubL Wr Sgl EvL LH.upd WL OpS Any Con PopW Pop
theorem sgl_pt {l : List Pt} : Sgl (l.map Pt.c).flatten := by
  unfold Sgl; intro v hv; simp only [List.mem_flatten, List.mem_map] at hv; obtain ⟨_, ⟨p, _, rfl⟩, hv⟩ := hv; simp [Pt.c] at hv; rcases hv with rfl | rfl <;> rfl
theorem sgl_bx {l : List Bx} : Sgl (l.map Bx.cs).flatten := by
  unfold Sgl; intro v hv; simp only [List.mem_flatten, List.mem_map] at hv; obtain ⟨_, ⟨p, _, rfl⟩, hv⟩ := hv; simp [Bx.cs] at hv; rcases hv with rfl | rfl | rfl | rfl <;> rfl
theorem sgl_mk {l : List Mk} : Sgl (l.map Mk.c).flatten := by
  unfold Sgl; intro v hv; simp only [List.mem_flatten, List.mem_map] at hv; obtain ⟨_, ⟨p, _, rfl⟩, hv⟩ := hv; simp [Mk.c] at hv; rcases hv with rfl | rfl | rfl | rfl <;> rfl
def aftL (lo th : Int) : Int := max (w64 (lo - th)) 0
def aftM (tl th : Int) (m : Mk) : Mk := ⟨m.u, m.v, aftL m.lo th, aftL m.hi tl⟩
def seasonE (l : List Pt) (lh : List Bx) (st lo hi : Int) (lm : List Mk) (tl th gain : Int) : Int :=
  if checkV l lh st lo hi lm ≠ 0 then checkV l lh st lo hi lm
  else if spansV tl th 2000 = false ∨ ¬ (0 ≤ gain ∧ gain ≤ 1000) then 1
  else if w64 (st + gain) > 1000 then 3 else 0
def curM (tl th : Int) (lm : List Mk) (i : Nat) : List Mk := (lm.take i).map (aftM tl th) ++ lm.drop i
theorem cur_get {tl th : Int} {lm : List Mk} {i : Nat} (hi : i < lm.length) : (curM tl th lm i)[i]? = some (Mk.at lm i) := by
  unfold curM
  rw [List.getElem?_append_right (by simp; omega), List.length_map, List.length_take, Nat.min_eq_left (Nat.le_of_lt hi), Nat.sub_self]
  simp [Mk.at, hi]
theorem cur_set {tl th : Int} {lm : List Mk} {i : Nat} (hi : i < lm.length) : ((curM tl th lm i).map Mk.c).set i (Mk.c (aftM tl th (Mk.at lm i))) = (curM tl th lm (i + 1)).map Mk.c := by
  rw [← List.map_set]
  congr 1
  unfold curM
  rw [List.set_append_right _ _ (by simp; omega), List.length_map, List.length_take, Nat.min_eq_left (Nat.le_of_lt hi), Nat.sub_self, List.drop_eq_getElem_cons hi, List.set_cons_zero, List.take_succ_eq_append_getElem hi, List.map_append]
  simp [Mk.at, hi]
theorem cur_len {tl th : Int} {lm : List Mk} {i : Nat} : (curM tl th lm i).length = lm.length := by
  unfold curM; simp; omega
theorem slW_single {h : LH} {sz : Nat} {v : Value} {xs : List (List Value)} (w : SlW h sz v xs) : SingleC v := ⟨by obtain ⟨_, ⟨rfl, _⟩ | ⟨_, _, _, _, _, rfl, _⟩⟩ := w <;> rfl⟩

theorem c9 {l : List Pt} {lh : List Bx} {lm : List Mk} {vo vh vm : Value} {st lo hi tl th gain : Int} {h : LH} [so : SingleC vo] [sh : SingleC vh] [sm : SingleC vm] [hvo : SlC h 2 vo (l.map Pt.c)] [hvh : SlC h 4 vh (lh.map Bx.cs)] [hvm : SlC h 4 vm (lm.map Mk.c)]
    (hn : l.length ≤ 1000) (hn2 : lh.length ≤ 1000) (hn3 : lm.length ≤ 1000) :
    Con Tryd.prog 9 [.agg #[vo, vh, .int .i64 st, .int .i64 lo, .int .i64 hi, vm], .agg #[.int .i64 tl, .int .i64 th], .int .i64 gain] h (fun r h' => Ext h h' ∧
      ((seasonE l lh st lo hi lm tl th gain ≠ 0 ∧ r = .tuple (List.toArray [.agg (List.toArray [.slice none 0 0, .slice none 0 0, .int .i64 0, .int .i64 0, .int .i64 0, .slice none 0 0]), .int .i64 (seasonE l lh st lo hi lm tl th gain)])) ∨
        (seasonE l lh st lo hi lm tl th gain = 0 ∧ ∃ vo' vh' vm', r = .tuple (List.toArray [.agg (List.toArray [vo', vh', .int .i64 (w64 (st + gain)), .int .i64 (aftL lo th), .int .i64 (aftL hi tl), vm']), .int .i64 0]) ∧
          SlW h' 2 vo' (l.map Pt.c) ∧ SlW h' 4 vh' (lh.map Bx.cs) ∧ SlW h' 4 vm' ((lm.map (aftM tl th)).map Mk.c)))) := by
  have hvo' : SlAt h 2 vo (l.map Pt.c) := ⟨hvo.out⟩
  have hvh' : SlAt h 4 vh (lh.map Bx.cs) := ⟨hvh.out⟩
  have hvm' : SlAt h 4 vm (lm.map Mk.c) := ⟨hvm.out⟩
  have gn1 : GtC l.length 4611686018427387904 := ⟨by omega⟩
  have gn2 : GtC lh.length 4611686018427387904 := ⟨by omega⟩
  have gn3 : GtC lm.length 4611686018427387904 := ⟨by omega⟩
  refine Con.intro (m := 3) Tryd.func9 rfl Tryd.ntmps9 rfl (by decide) ?_
  intro main S hS c cs hc
  repeat (first | refine hS.seq ?_ | refine hS.regionW ?_ | refine W.pop ?_ | refine W.yes ?_ | refine W.no ?_ | refine W.box (fun _ _ => ?_) | refine W.alloc (fun _ _ => ?_) | refine W.store ?_ | refine W.bs (fun _ _ => ?_) | refine W.fn hS (fun _ _ => ?_) | refine WL.nil ?_ | refine R.condT hS ?_ | refine R.condF hS ?_ | refine hS.skip ?_ | refine hS.block ?_ | refine hS.inBlock ?_ | refine R.ret hS ?_ | refine R.fin hS ?_ | refine R.begin hS ?_ | refine R.endRound hS ?_ | refine R.retRound hS ?_ | refine R.retC hS ?_ | refine R.endRangeDone hS ?_ | refine R.endRangeRet hS ?_)
  rename_i p3 f3 p4 f4 p6 f6 h1 x1
  refine R.cond hS (fun hT => ?_) (fun hF => ?_)
  · have k1 : checkV l lh st lo hi lm ≠ 0 := by have := hT.out; simpa using this
    have e : seasonE l lh st lo hi lm tl th gain = checkV l lh st lo hi lm := by unfold seasonE; rw [if_pos k1]
    repeat (first | refine hS.seq ?_ | refine hS.regionW ?_ | refine W.pop ?_ | refine W.yes ?_ | refine W.no ?_ | refine W.box (fun _ _ => ?_) | refine W.alloc (fun _ _ => ?_) | refine W.store ?_ | refine W.bs (fun _ _ => ?_) | refine W.fn hS (fun _ _ => ?_) | refine WL.nil ?_ | refine R.condT hS ?_ | refine R.condF hS ?_ | refine hS.skip ?_ | refine hS.block ?_ | refine hS.inBlock ?_ | refine R.ret hS ?_ | refine R.fin hS ?_ | refine R.begin hS ?_ | refine R.endRound hS ?_ | refine R.retRound hS ?_ | refine R.retC hS ?_ | refine R.endRangeDone hS ?_ | refine R.endRangeRet hS ?_)
    exact hc _ _ ⟨Ext0.out, .inl ⟨by rw [e]; exact k1, by rw [e]; rfl⟩⟩
  · have k1 : ¬ checkV l lh st lo hi lm ≠ 0 := by have := hF.out; simpa using this
    have e1 : ∀ k2 : spansV tl th 2000 = false ∨ ¬ (0 ≤ gain ∧ gain ≤ 1000), seasonE l lh st lo hi lm tl th gain = 1 := fun k2 => by unfold seasonE; rw [if_neg k1, if_pos k2]
    repeat (first | refine hS.seq ?_ | refine hS.regionW ?_ | refine W.pop ?_ | refine W.yes ?_ | refine W.no ?_ | refine W.box (fun _ _ => ?_) | refine W.alloc (fun _ _ => ?_) | refine W.store ?_ | refine W.bs (fun _ _ => ?_) | refine W.fn hS (fun _ _ => ?_) | refine WL.nil ?_ | refine R.condT hS ?_ | refine R.condF hS ?_ | refine hS.skip ?_ | refine hS.block ?_ | refine hS.inBlock ?_ | refine R.ret hS ?_ | refine R.fin hS ?_ | refine R.begin hS ?_ | refine R.endRound hS ?_ | refine R.retRound hS ?_ | refine R.retC hS ?_ | refine R.endRangeDone hS ?_ | refine R.endRangeRet hS ?_)
    refine W.split (fun hT => ?_) (fun hF => ?_)
    · have e := e1 (.inl (by have := hT.out; rw [Bool.not_eq_true'] at this; exact this))
      repeat (first | refine hS.seq ?_ | refine hS.regionW ?_ | refine W.pop ?_ | refine W.yes ?_ | refine W.no ?_ | refine W.box (fun _ _ => ?_) | refine W.alloc (fun _ _ => ?_) | refine W.store ?_ | refine W.bs (fun _ _ => ?_) | refine W.fn hS (fun _ _ => ?_) | refine WL.nil ?_ | refine R.condT hS ?_ | refine R.condF hS ?_ | refine hS.skip ?_ | refine hS.block ?_ | refine hS.inBlock ?_ | refine R.ret hS ?_ | refine R.fin hS ?_ | refine R.begin hS ?_ | refine R.endRound hS ?_ | refine R.retRound hS ?_ | refine R.retC hS ?_ | refine R.endRangeDone hS ?_ | refine R.endRangeRet hS ?_)
      exact hc _ _ ⟨Ext0.out, .inl ⟨by rw [e]; decide, by rw [e]; rfl⟩⟩
    · have ks : spansV tl th 2000 = true := by have := hF.out; rw [Bool.not_eq_false'] at this; exact this
      repeat (first | refine hS.seq ?_ | refine hS.regionW ?_ | refine W.pop ?_ | refine W.yes ?_ | refine W.no ?_ | refine W.box (fun _ _ => ?_) | refine W.alloc (fun _ _ => ?_) | refine W.store ?_ | refine W.bs (fun _ _ => ?_) | refine W.fn hS (fun _ _ => ?_) | refine WL.nil ?_ | refine R.condT hS ?_ | refine R.condF hS ?_ | refine hS.skip ?_ | refine hS.block ?_ | refine hS.inBlock ?_ | refine R.ret hS ?_ | refine R.fin hS ?_ | refine R.begin hS ?_ | refine R.endRound hS ?_ | refine R.retRound hS ?_ | refine R.retC hS ?_ | refine R.endRangeDone hS ?_ | refine R.endRangeRet hS ?_)
      refine R.cond hS (fun hT => ?_) (fun hF => ?_)
      · have e := e1 (.inr (by have := hT.out; simp at this; omega))
        repeat (first | refine hS.seq ?_ | refine hS.regionW ?_ | refine W.pop ?_ | refine W.yes ?_ | refine W.no ?_ | refine W.box (fun _ _ => ?_) | refine W.alloc (fun _ _ => ?_) | refine W.store ?_ | refine W.bs (fun _ _ => ?_) | refine W.fn hS (fun _ _ => ?_) | refine WL.nil ?_ | refine R.condT hS ?_ | refine R.condF hS ?_ | refine hS.skip ?_ | refine hS.block ?_ | refine hS.inBlock ?_ | refine R.ret hS ?_ | refine R.fin hS ?_ | refine R.begin hS ?_ | refine R.endRound hS ?_ | refine R.retRound hS ?_ | refine R.retC hS ?_ | refine R.endRangeDone hS ?_ | refine R.endRangeRet hS ?_)
        exact hc _ _ ⟨Ext0.out, .inl ⟨by rw [e]; decide, by rw [e]; rfl⟩⟩
      · have k2 : ¬ (spansV tl th 2000 = false ∨ ¬ (0 ≤ gain ∧ gain ≤ 1000)) := by
          rintro (h | h)
          · rw [ks] at h; cases h
          · have := hF.out; simp at this; omega
        repeat (first | refine hS.seq ?_ | refine hS.regionW ?_ | refine W.pop ?_ | refine W.yes ?_ | refine W.no ?_ | refine W.box (fun _ _ => ?_) | refine W.alloc (fun _ _ => ?_) | refine W.store ?_ | refine W.bs (fun _ _ => ?_) | refine W.fn hS (fun _ _ => ?_) | refine WL.nil ?_ | refine R.condT hS ?_ | refine R.condF hS ?_ | refine hS.skip ?_ | refine hS.block ?_ | refine hS.inBlock ?_ | refine R.ret hS ?_ | refine R.fin hS ?_ | refine R.begin hS ?_ | refine R.endRound hS ?_ | refine R.retRound hS ?_ | refine R.retC hS ?_ | refine R.endRangeDone hS ?_ | refine R.endRangeRet hS ?_)
        refine R.cond hS (fun hT => ?_) (fun hF => ?_)
        · have k3 : w64 (st + gain) > 1000 := by have := hT.out; simpa using this
          have e : seasonE l lh st lo hi lm tl th gain = 3 := by unfold seasonE; rw [if_neg k1, if_neg k2, if_pos k3]
          repeat (first | refine hS.seq ?_ | refine hS.regionW ?_ | refine W.pop ?_ | refine W.yes ?_ | refine W.no ?_ | refine W.box (fun _ _ => ?_) | refine W.alloc (fun _ _ => ?_) | refine W.store ?_ | refine W.bs (fun _ _ => ?_) | refine W.fn hS (fun _ _ => ?_) | refine WL.nil ?_ | refine R.condT hS ?_ | refine R.condF hS ?_ | refine hS.skip ?_ | refine hS.block ?_ | refine hS.inBlock ?_ | refine R.ret hS ?_ | refine R.fin hS ?_ | refine R.begin hS ?_ | refine R.endRound hS ?_ | refine R.retRound hS ?_ | refine R.retC hS ?_ | refine R.endRangeDone hS ?_ | refine R.endRangeRet hS ?_)
          exact hc _ _ ⟨Ext0.out, .inl ⟨by rw [e]; decide, by rw [e]; rfl⟩⟩
        · have k3 : ¬ w64 (st + gain) > 1000 := by have := hF.out; simpa using this
          have e : seasonE l lh st lo hi lm tl th gain = 0 := by unfold seasonE; rw [if_neg k1, if_neg k2, if_neg k3]
          repeat (first | refine hS.seq ?_ | refine hS.regionW ?_ | refine W.pop ?_ | refine W.yes ?_ | refine W.no ?_ | refine W.box (fun _ _ => ?_) | refine W.alloc (fun _ _ => ?_) | refine W.store ?_ | refine W.bs (fun _ _ => ?_) | refine W.fn hS (fun _ _ => ?_) | refine WL.nil ?_ | refine R.condT hS ?_ | refine R.condF hS ?_ | refine hS.skip ?_ | refine hS.block ?_ | refine hS.inBlock ?_ | refine R.ret hS ?_ | refine R.fin hS ?_ | refine R.begin hS ?_ | refine R.endRound hS ?_ | refine R.retRound hS ?_ | refine R.retC hS ?_ | refine R.endRangeDone hS ?_ | refine R.endRangeRet hS ?_)
          refine W.call hS (c34 (hvo'.out.ext Ext0.out) (hvh'.out.ext Ext0.out) (hvm'.out.ext Ext0.out) sgl_pt sgl_bx sgl_mk (by simpa using hn) (by simpa using hn2) (by simpa using hn3)) (fun rr h2 hr => ?_)
          obtain ⟨x2, vo', vh', vm', rfl, w1, w2, w3, n1, n2, n3, d1, d2⟩ := hr
          have x2c : ExtC _ h2 := ⟨x2⟩
          have so' := slW_single w1
          have sh' := slW_single w2
          have sm' := slW_single w3
          have nc1 : NewC _ vo' := ⟨n1⟩
          have nc2 : NewC _ vh' := ⟨n2⟩
          have nc3 : NewC _ vm' := ⟨n3⟩
          have sw1 : SlwC h2 2 vo' (l.map Pt.c) := ⟨w1⟩
          have sw2 : SlwC h2 4 vh' (lh.map Bx.cs) := ⟨w2⟩
          have sw3 : SlwC h2 4 vm' (lm.map Mk.c) := ⟨w3⟩
          repeat (first | refine hS.seq ?_ | refine hS.regionW ?_ | refine W.pop ?_ | refine W.yes ?_ | refine W.no ?_ | refine W.box (fun _ _ => ?_) | refine W.alloc (fun _ _ => ?_) | refine W.store ?_ | refine W.bs (fun _ _ => ?_) | refine W.fn hS (fun _ _ => ?_) | refine WL.nil ?_ | refine R.condT hS ?_ | refine R.condF hS ?_ | refine hS.skip ?_ | refine hS.block ?_ | refine hS.inBlock ?_ | refine R.ret hS ?_ | refine R.fin hS ?_ | refine R.begin hS ?_ | refine R.endRound hS ?_ | refine R.retRound hS ?_ | refine R.retC hS ?_ | refine R.endRangeDone hS ?_ | refine R.endRangeRet hS ?_)
          refine hS.loop ?_
          have z3 : Fresh0 h p3 := inferInstance
          have z6 : Fresh0 h p6 := inferInstance
          have q36 : NeB p3 p6 := inferInstance
          have nn3 : NewB h vm' := n3.old Ext0.out
          have e3 : NbC vm' p3 := inferInstance
          have e4 : NbC vm' p4 := inferInstance
          have e6 : NbC vm' p6 := inferInstance
          have o6 : NbC vo' p6 := inferInstance
          have h6 : NbC vh' p6 := inferInstance
          refine loop_ind (fun (i : Nat) => lm.length - i) (fun i E h' => i ≤ lm.length ∧ LookC E 3 (.pointer (some ⟨p3, 0, none⟩)) ∧ LookC E 4 (.pointer (some ⟨p4, 0, none⟩)) ∧ LookC E 6 (.pointer (some ⟨p6, 0, none⟩)) ∧ LookC E 48 (.int .i64 lm.length) ∧ LookC E 49 (.int .i64 (i : Nat)) ∧ Ext0 h h' ∧ HGC h' p3 (.cells (List.toArray [vo', vh', .int .i64 (w64 (st + gain)), .int .i64 (aftL lo th), .int .i64 (aftL hi tl), vm']) 30 (0, 0)) ∧
            HGC h' p4 (.cells (List.toArray [.int .i64 tl, .int .i64 th]) 27 (0, 0)) ∧ HGC h' p6 (.cells (List.toArray [.slice none 0 0, .slice none 0 0, .int .i64 0, .int .i64 0, .int .i64 0, .slice none 0 0]) 30 (0, 0)) ∧ OwnC h' p6 ∧ SlwC h' 2 vo' (l.map Pt.c) ∧ SlwC h' 4 vh' (lh.map Bx.cs) ∧ SlwC h' 4 vm' ((curM tl th lm i).map Mk.c)) ?_ 0 _ _
            ⟨Nat.zero_le _, inferInstance, inferInstance, inferInstance, inferInstance, inferInstance, inferInstance, (by simp only [aftL]; infer_instance), inferInstance, inferInstance, inferInstance, inferInstance, inferInstance, (by simp only [curM, List.take_zero, List.map_nil, List.drop_zero, List.nil_append]; infer_instance)⟩
          rintro i E h' ⟨hile, l3, l4, l6, l48, l49, hx, g3, g4, g6, o6', s1, s2, s3⟩ ih
          by_cases hlt : i < lm.length
          · have ix : IxC (curM tl th lm i) i (Mk.at lm i) := ⟨cur_get hlt⟩
            have t1 : IsC (decide ((i : Int) < (lm.length : Int))) true := ⟨by simp [hlt]⟩
            have nw : NoW ((i : Int) + 1) := NoW.of (by omega) (by omega)
            have eg : ((curM tl th lm i).map Mk.c)[i]? = some [.int .i64 (Mk.at lm i).u, .int .i64 (Mk.at lm i).v, .int .i64 (Mk.at lm i).lo, .int .i64 (Mk.at lm i).hi] := by rw [List.getElem?_map, cur_get hlt]; rfl
            repeat (first | refine hS.seq ?_ | refine hS.regionW ?_ | refine W.pop ?_ | refine W.yes ?_ | refine W.no ?_ | refine W.box (fun _ _ => ?_) | refine W.alloc (fun _ _ => ?_) | refine W.store ?_ | refine W.bs (fun _ _ => ?_) | refine W.fn hS (fun _ _ => ?_) | refine WL.nil ?_ | refine R.condT hS ?_ | refine R.condF hS ?_ | refine hS.skip ?_ | refine hS.block ?_ | refine hS.inBlock ?_ | refine R.ret hS ?_ | refine R.fin hS ?_ | refine R.begin hS ?_ | refine R.endRound hS ?_ | refine R.retRound hS ?_ | refine R.retC hS ?_ | refine R.endRangeDone hS ?_ | refine R.endRangeRet hS ?_)
            refine hS.regionA mixed [13] ?_
            refine A.take 0 rfl (by kernel_rfl) (by intro _ _ e; cases e) ?_
            refine A.take 1 rfl (by kernel_rfl) (by intro _ _ e; cases e) ?_
            first | (refine A.takeM 2 rfl (by kernel_rfl) (by intro _ _ e; cases e) ?_) | (refine A.take 2 rfl (by kernel_rfl) (by intro _ _ e; cases e) ?_)
            refine A.take 3 rfl (by kernel_rfl) (by intro _ _ e; cases e) ?_
            refine A.take 4 rfl (by kernel_rfl) (by intro _ _ e; cases e) ?_
            first | (refine A.takeM 5 rfl (by kernel_rfl) (by intro _ _ e; cases e) ?_) | (refine A.take 5 rfl (by kernel_rfl) (by intro _ _ e; cases e) ?_)
            refine A.take 6 rfl (by kernel_rfl) (by intro _ _ e; cases e) ?_
            refine A.take 7 rfl (by kernel_rfl) (by intro _ _ e; cases e) ?_
            refine A.take 8 rfl (by kernel_rfl) (by intro _ _ e; cases e) ?_
            refine A.take 9 rfl (by kernel_rfl) (by intro _ _ e; cases e) ?_
            refine A.one 10 rfl (by kernel_rfl) ?_
            first | refine W.pop ?_ | refine W.fn hS (fun _ _ => ?_) | refine W.bs (fun _ _ => ?_) | refine W.box (fun _ _ => ?_) | refine W.alloc (fun _ _ => ?_) | refine W.store ?_
            refine A.soft ?_
            refine A.take 11 rfl (by kernel_rfl) (by intro _ _ e; cases e) ?_
            refine A.take 12 rfl (by kernel_rfl) (by intro _ _ e; cases e) ?_
            refine A.one 13 rfl (by kernel_rfl) ?_
            refine W.storeEl (SlwC.out (v := vm') (xs := (curM tl th lm i).map Mk.c)) eg (fun h3 w3' fr3 => ?_)
            refine A.hard (by rfl) ?_
            refine Any.done (by kernel_rfl) ?_
            have y0 : Ext0 h h3 := ⟨fr3.ext nn3 Ext0.out⟩
            have y3 : HGC h3 p3 (.cells (List.toArray [vo', vh', .int .i64 (w64 (st + gain)), .int .i64 (aftL lo th), .int .i64 (aftL hi tl), vm']) 30 (0, 0)) := fr3.hg
            have y4 : HGC h3 p4 (.cells (List.toArray [.int .i64 tl, .int .i64 th]) 27 (0, 0)) := fr3.hg
            have y6 : HGC h3 p6 (.cells (List.toArray [.slice none 0 0, .slice none 0 0, .int .i64 0, .int .i64 0, .int .i64 0, .slice none 0 0]) 30 (0, 0)) := fr3.hg
            have y7 : OwnC h3 p6 := fr3.ow
            have y8 : SlwC h3 2 vo' (l.map Pt.c) := fr3.sl d1
            have y9 : SlwC h3 4 vh' (lh.map Bx.cs) := fr3.sl d2
            have ya : SlwC h3 4 vm' ((curM tl th lm (i + 1)).map Mk.c) := ⟨by rw [← cur_set hlt]; exact w3'⟩
            repeat (first | refine hS.seq ?_ | refine hS.regionW ?_ | refine W.pop ?_ | refine W.yes ?_ | refine W.no ?_ | refine W.box (fun _ _ => ?_) | refine W.alloc (fun _ _ => ?_) | refine W.store ?_ | refine W.bs (fun _ _ => ?_) | refine W.fn hS (fun _ _ => ?_) | refine WL.nil ?_ | refine R.condT hS ?_ | refine R.condF hS ?_ | refine hS.skip ?_ | refine hS.block ?_ | refine hS.inBlock ?_ | refine R.ret hS ?_ | refine R.fin hS ?_ | refine R.begin hS ?_ | refine R.endRound hS ?_ | refine R.retRound hS ?_ | refine R.retC hS ?_ | refine R.endRangeDone hS ?_ | refine R.endRangeRet hS ?_)
            refine hS.inLoop ?_
            exact ih (i + 1) _ _ (by omega) ⟨hlt, inferInstance, inferInstance, inferInstance, inferInstance, by have e : ((i + 1 : Nat) : Int) = (i : Int) + 1 := (by omega); rw [e]; infer_instance, inferInstance, inferInstance, inferInstance, inferInstance, inferInstance, inferInstance, inferInstance, inferInstance⟩
          · have t1 : IsC (decide ((i : Int) < (lm.length : Int))) false := ⟨by simp; omega⟩
            have ei : i = lm.length := by omega
            subst ei
            have ec : curM tl th lm lm.length = lm.map (aftM tl th) := by simp [curM]
            rw [ec] at s3
            repeat (first | refine hS.seq ?_ | refine hS.regionW ?_ | refine W.pop ?_ | refine W.yes ?_ | refine W.no ?_ | refine W.box (fun _ _ => ?_) | refine W.alloc (fun _ _ => ?_) | refine W.store ?_ | refine W.bs (fun _ _ => ?_) | refine W.fn hS (fun _ _ => ?_) | refine WL.nil ?_ | refine R.condT hS ?_ | refine R.condF hS ?_ | refine hS.skip ?_ | refine hS.block ?_ | refine hS.inBlock ?_ | refine R.ret hS ?_ | refine R.fin hS ?_ | refine R.begin hS ?_ | refine R.endRound hS ?_ | refine R.retRound hS ?_ | refine R.retC hS ?_ | refine R.endRangeDone hS ?_ | refine R.endRangeRet hS ?_)
            refine hS.exit rfl ?_
            repeat (first | refine hS.seq ?_ | refine hS.regionW ?_ | refine W.pop ?_ | refine W.yes ?_ | refine W.no ?_ | refine W.box (fun _ _ => ?_) | refine W.alloc (fun _ _ => ?_) | refine W.store ?_ | refine W.bs (fun _ _ => ?_) | refine W.fn hS (fun _ _ => ?_) | refine WL.nil ?_ | refine R.condT hS ?_ | refine R.condF hS ?_ | refine hS.skip ?_ | refine hS.block ?_ | refine hS.inBlock ?_ | refine R.ret hS ?_ | refine R.fin hS ?_ | refine R.begin hS ?_ | refine R.endRound hS ?_ | refine R.retRound hS ?_ | refine R.retC hS ?_ | refine R.endRangeDone hS ?_ | refine R.endRangeRet hS ?_)
            exact hc _ _ ⟨Ext0.out, .inr ⟨e, vo', vh', vm', rfl, (inferInstance : SlwC _ 2 vo' (l.map Pt.c)).out, (inferInstance : SlwC _ 4 vh' (lh.map Bx.cs)).out, (inferInstance : SlwC _ 4 vm' ((lm.map (aftM tl th)).map Mk.c)).out⟩⟩
end Go.Proofs.YtankmjkogcbnfaaDoor
/-
  wear.Rate at the numbers that lives asks.
-/
namespace Go.Proofs.YtankmjkogcbnfaaDoor
open Go Go.SL Go.Conc
attribute [local irreducible] putE ofL Look Nth Ev HG Own SubL Wr Sgl EvL LH.upd WL OpS Any Con PopW Pop
instance c30 {h : LH} : FnC Tryd.prog 30 [.agg #[.int .i64 100, .int .i64 200], .int .i64 1, .int .i64 2, .int .i64 10, .int .i64 50] h (.tuple (List.toArray [.agg (List.toArray [.int .i64 165, .int .i64 495]), .int .i64 0])) := by
  have n1 : Ne0 (w64 (200 * 1)) := ⟨by decide⟩
  have n2 : Ne0 (w64 (20000 * 1)) := ⟨by decide⟩
  refine ⟨Con.intro (m := 5) Tryd.func30 rfl Tryd.ntmps30 rfl (by decide) ?_⟩
  intro main S hS c cs hc
  repeat (first | refine hS.seq ?_ | refine hS.regionW ?_ | refine W.pop ?_ | refine W.yes ?_ | refine W.no ?_ | refine W.box (fun _ _ => ?_) | refine W.alloc (fun _ _ => ?_) | refine W.store ?_ | refine W.bs (fun _ _ => ?_) | refine W.fn hS (fun _ _ => ?_) | refine WL.nil ?_ | refine R.condT hS ?_ | refine R.condF hS ?_ | refine hS.skip ?_ | refine hS.block ?_ | refine hS.inBlock ?_ | refine R.ret hS ?_ | refine R.fin hS ?_ | refine R.begin hS ?_ | refine R.endRound hS ?_ | refine R.retRound hS ?_ | refine R.retC hS ?_ | refine R.endRangeDone hS ?_ | refine R.endRangeRet hS ?_)
  refine W.split (fun k => absurd k.out (by decide)) (fun _ => ?_)
  repeat (first | refine hS.seq ?_ | refine hS.regionW ?_ | refine W.pop ?_ | refine W.yes ?_ | refine W.no ?_ | refine W.box (fun _ _ => ?_) | refine W.alloc (fun _ _ => ?_) | refine W.store ?_ | refine W.bs (fun _ _ => ?_) | refine W.fn hS (fun _ _ => ?_) | refine WL.nil ?_ | refine R.condT hS ?_ | refine R.condF hS ?_ | refine hS.skip ?_ | refine hS.block ?_ | refine hS.inBlock ?_ | refine R.ret hS ?_ | refine R.fin hS ?_ | refine R.begin hS ?_ | refine R.endRound hS ?_ | refine R.retRound hS ?_ | refine R.retC hS ?_ | refine R.endRangeDone hS ?_ | refine R.endRangeRet hS ?_)
  refine W.split (fun k => absurd k.out (by decide)) (fun _ => ?_)
  repeat (first | refine hS.seq ?_ | refine hS.regionW ?_ | refine W.pop ?_ | refine W.yes ?_ | refine W.no ?_ | refine W.box (fun _ _ => ?_) | refine W.alloc (fun _ _ => ?_) | refine W.store ?_ | refine W.bs (fun _ _ => ?_) | refine W.fn hS (fun _ _ => ?_) | refine WL.nil ?_ | refine R.condT hS ?_ | refine R.condF hS ?_ | refine hS.skip ?_ | refine hS.block ?_ | refine hS.inBlock ?_ | refine R.ret hS ?_ | refine R.fin hS ?_ | refine R.begin hS ?_ | refine R.endRound hS ?_ | refine R.retRound hS ?_ | refine R.retC hS ?_ | refine R.endRangeDone hS ?_ | refine R.endRangeRet hS ?_)
  refine W.split (fun k => absurd k.out (by decide)) (fun _ => ?_)
  repeat (first | refine hS.seq ?_ | refine hS.regionW ?_ | refine W.pop ?_ | refine W.yes ?_ | refine W.no ?_ | refine W.box (fun _ _ => ?_) | refine W.alloc (fun _ _ => ?_) | refine W.store ?_ | refine W.bs (fun _ _ => ?_) | refine W.fn hS (fun _ _ => ?_) | refine WL.nil ?_ | refine R.condT hS ?_ | refine R.condF hS ?_ | refine hS.skip ?_ | refine hS.block ?_ | refine hS.inBlock ?_ | refine R.ret hS ?_ | refine R.fin hS ?_ | refine R.begin hS ?_ | refine R.endRound hS ?_ | refine R.retRound hS ?_ | refine R.retC hS ?_ | refine R.endRangeDone hS ?_ | refine R.endRangeRet hS ?_)
  refine W.split (fun k => absurd k.out (by decide)) (fun _ => ?_)
  repeat (first | refine hS.seq ?_ | refine hS.regionW ?_ | refine W.pop ?_ | refine W.yes ?_ | refine W.no ?_ | refine W.box (fun _ _ => ?_) | refine W.alloc (fun _ _ => ?_) | refine W.store ?_ | refine W.bs (fun _ _ => ?_) | refine W.fn hS (fun _ _ => ?_) | refine WL.nil ?_ | refine R.condT hS ?_ | refine R.condF hS ?_ | refine hS.skip ?_ | refine hS.block ?_ | refine hS.inBlock ?_ | refine R.ret hS ?_ | refine R.fin hS ?_ | refine R.begin hS ?_ | refine R.endRound hS ?_ | refine R.retRound hS ?_ | refine R.retC hS ?_ | refine R.endRangeDone hS ?_ | refine R.endRangeRet hS ?_)
  refine R.cond hS (fun k => absurd k.out (by decide)) (fun _ => ?_)
  repeat (first | refine hS.seq ?_ | refine hS.regionW ?_ | refine W.pop ?_ | refine W.yes ?_ | refine W.no ?_ | refine W.box (fun _ _ => ?_) | refine W.alloc (fun _ _ => ?_) | refine W.store ?_ | refine W.bs (fun _ _ => ?_) | refine W.fn hS (fun _ _ => ?_) | refine WL.nil ?_ | refine R.condT hS ?_ | refine R.condF hS ?_ | refine hS.skip ?_ | refine hS.block ?_ | refine hS.inBlock ?_ | refine R.ret hS ?_ | refine R.fin hS ?_ | refine R.begin hS ?_ | refine R.endRound hS ?_ | refine R.retRound hS ?_ | refine R.retC hS ?_ | refine R.endRangeDone hS ?_ | refine R.endRangeRet hS ?_)
  refine hS.regionA mixed [22] ?_
  refine A.take 0 rfl (by kernel_rfl) (by intro _ _ e; cases e) ?_
  refine A.take 1 rfl (by kernel_rfl) (by intro _ _ e; cases e) ?_
  refine A.take 2 rfl (by kernel_rfl) (by intro _ _ e; cases e) ?_
  first | (refine A.takeM 3 rfl (by kernel_rfl) (by intro _ _ e; cases e) ?_) | (refine A.take 3 rfl (by kernel_rfl) (by intro _ _ e; cases e) ?_)
  first | (refine A.takeM 4 rfl (by kernel_rfl) (by intro _ _ e; cases e) ?_) | (refine A.take 4 rfl (by kernel_rfl) (by intro _ _ e; cases e) ?_)
  first | (refine A.takeM 5 rfl (by kernel_rfl) (by intro _ _ e; cases e) ?_) | (refine A.take 5 rfl (by kernel_rfl) (by intro _ _ e; cases e) ?_)
  first | (refine A.takeM 6 rfl (by kernel_rfl) (by intro _ _ e; cases e) ?_) | (refine A.take 6 rfl (by kernel_rfl) (by intro _ _ e; cases e) ?_)
  first | (refine A.takeM 7 rfl (by kernel_rfl) (by intro _ _ e; cases e) ?_) | (refine A.take 7 rfl (by kernel_rfl) (by intro _ _ e; cases e) ?_)
  refine A.take 8 rfl (by kernel_rfl) (by intro _ _ e; cases e) ?_
  refine A.take 9 rfl (by kernel_rfl) (by intro _ _ e; cases e) ?_
  refine A.take 10 rfl (by kernel_rfl) (by intro _ _ e; cases e) ?_
  first | (refine A.takeM 11 rfl (by kernel_rfl) (by intro _ _ e; cases e) ?_) | (refine A.take 11 rfl (by kernel_rfl) (by intro _ _ e; cases e) ?_)
  first | (refine A.takeM 12 rfl (by kernel_rfl) (by intro _ _ e; cases e) ?_) | (refine A.take 12 rfl (by kernel_rfl) (by intro _ _ e; cases e) ?_)
  first | (refine A.takeM 13 rfl (by kernel_rfl) (by intro _ _ e; cases e) ?_) | (refine A.take 13 rfl (by kernel_rfl) (by intro _ _ e; cases e) ?_)
  first | (refine A.takeM 14 rfl (by kernel_rfl) (by intro _ _ e; cases e) ?_) | (refine A.take 14 rfl (by kernel_rfl) (by intro _ _ e; cases e) ?_)
  first | (refine A.takeM 15 rfl (by kernel_rfl) (by intro _ _ e; cases e) ?_) | (refine A.take 15 rfl (by kernel_rfl) (by intro _ _ e; cases e) ?_)
  first | (refine A.takeM 16 rfl (by kernel_rfl) (by intro _ _ e; cases e) ?_) | (refine A.take 16 rfl (by kernel_rfl) (by intro _ _ e; cases e) ?_)
  first | (refine A.takeM 17 rfl (by kernel_rfl) (by intro _ _ e; cases e) ?_) | (refine A.take 17 rfl (by kernel_rfl) (by intro _ _ e; cases e) ?_)
  first | (refine A.takeM 18 rfl (by kernel_rfl) (by intro _ _ e; cases e) ?_) | (refine A.take 18 rfl (by kernel_rfl) (by intro _ _ e; cases e) ?_)
  first | (refine A.takeM 19 rfl (by kernel_rfl) (by intro _ _ e; cases e) ?_) | (refine A.take 19 rfl (by kernel_rfl) (by intro _ _ e; cases e) ?_)
  first | (refine A.takeM 20 rfl (by kernel_rfl) (by intro _ _ e; cases e) ?_) | (refine A.take 20 rfl (by kernel_rfl) (by intro _ _ e; cases e) ?_)
  refine A.take 21 rfl (by kernel_rfl) (by intro _ _ e; cases e) ?_
  refine A.one 22 rfl (by kernel_rfl) ?_
  first | refine W.pop ?_ | refine W.fn hS (fun _ _ => ?_) | refine W.bs (fun _ _ => ?_) | refine W.box (fun _ _ => ?_) | refine W.alloc (fun _ _ => ?_) | refine W.store ?_
  refine A.hard (by rfl) ?_
  first | (refine A.takeM 23 rfl (by kernel_rfl) (by intro _ _ e; cases e) ?_) | (refine A.take 23 rfl (by kernel_rfl) (by intro _ _ e; cases e) ?_)
  refine Any.done (by kernel_rfl) ?_
  repeat (first | refine hS.seq ?_ | refine hS.regionW ?_ | refine W.pop ?_ | refine W.yes ?_ | refine W.no ?_ | refine W.box (fun _ _ => ?_) | refine W.alloc (fun _ _ => ?_) | refine W.store ?_ | refine W.bs (fun _ _ => ?_) | refine W.fn hS (fun _ _ => ?_) | refine WL.nil ?_ | refine R.condT hS ?_ | refine R.condF hS ?_ | refine hS.skip ?_ | refine hS.block ?_ | refine hS.inBlock ?_ | refine R.ret hS ?_ | refine R.fin hS ?_ | refine R.begin hS ?_ | refine R.endRound hS ?_ | refine R.retRound hS ?_ | refine R.retC hS ?_ | refine R.endRangeDone hS ?_ | refine R.endRangeRet hS ?_)
  exact hc _ _ ⟨rfl, Ext0.out⟩
end Go.Proofs.YtankmjkogcbnfaaDoor
/-
  thatchlaw07.Example and lives.
-/
namespace Go.Proofs.YtankmjkogcbnfaaDoor
open Go Go.SL Go.Conc
attribute [local irreducible] putE ofL Look Nth Ev HG Own SubL Wr Sgl EvL LH.upd WL OpS Any Con PopW Pop
def exL : List Pt := [⟨0, 0⟩, ⟨20, 0⟩, ⟨20, 10⟩, ⟨0, 10⟩]
def exH : List Bx := [⟨5, 2, 9, 6⟩]
def exM : List Mk := [⟨0, 0, 180, 200⟩]
theorem c29 {h : LH} : Con Tryd.prog 29 [] h (fun r h' => Ext h h' ∧ ∃ vo vh vm, r = .agg (List.toArray [vo, vh, .int .i64 2, .int .i64 100, .int .i64 300, vm]) ∧ SingleC vo ∧ SingleC vh ∧ SingleC vm ∧ SlE h' 2 vo (exL.map Pt.c) ∧ SlE h' 4 vh (exH.map Bx.cs) ∧ SlE h' 4 vm (exM.map Mk.c)) := by
  refine Con.intro (m := 0) Tryd.func29 rfl Tryd.ntmps29 rfl (by decide) ?_
  intro main S hS c cs hc
  repeat (first | refine hS.seq ?_ | refine hS.regionW ?_ | refine W.pop ?_ | refine W.yes ?_ | refine W.no ?_ | refine W.box (fun _ _ => ?_) | refine W.alloc (fun _ _ => ?_) | refine W.store ?_ | refine W.bs (fun _ _ => ?_) | refine W.fn hS (fun _ _ => ?_) | refine WL.nil ?_ | refine R.condT hS ?_ | refine R.condF hS ?_ | refine hS.skip ?_ | refine hS.block ?_ | refine hS.inBlock ?_ | refine R.ret hS ?_ | refine R.fin hS ?_ | refine R.begin hS ?_ | refine R.endRound hS ?_ | refine R.retRound hS ?_ | refine R.retC hS ?_ | refine R.endRangeDone hS ?_ | refine R.endRangeRet hS ?_)
  rename_i p0 f0 p1 f1 p2 f2 p3 f3
  refine hc _ _ ⟨Ext0.out, _, _, _, rfl, inferInstance, inferInstance, inferInstance, ?_, ?_, ?_⟩
  · exact SlW.sle ⟨by simp [exL, Pt.c], .inr ⟨p1, 0, 4, [.int .i64 0, .int .i64 0, .int .i64 20, .int .i64 0, .int .i64 20, .int .i64 10, .int .i64 0, .int .i64 10], 48, rfl, by simp [exL], OwnC.out, HGC.out, by simp, rfl⟩⟩
  · exact SlW.sle ⟨by simp [exH, Bx.cs], .inr ⟨p2, 0, 1, [.int .i64 5, .int .i64 2, .int .i64 9, .int .i64 6], 108, rfl, by simp [exH], OwnC.out, HGC.out, by simp, rfl⟩⟩
  · exact SlW.sle ⟨by simp [exM, Mk.c], .inr ⟨p3, 0, 1, [.int .i64 0, .int .i64 0, .int .i64 180, .int .i64 200], 120, rfl, by simp [exM], OwnC.out, HGC.out, by simp, rfl⟩⟩
end Go.Proofs.YtankmjkogcbnfaaDoor
namespace Go.Proofs.YtankmjkogcbnfaaDoor
open Go Go.SL Go.Conc
attribute [local irreducible] putE ofL Look Nth Ev HG Own SubL Wr Sgl EvL LH.upd WL OpS Any Con PopW Pop
instance fls27 : FlsC Tryd.prog 27 [(3, 0), (3, 1)] := ⟨by kernel_rfl⟩
instance eg27 : EgC Tryd.prog 27 := ⟨by kernel_rfl⟩
theorem exB : boundsE exL exH 2 100 300 exM 20 10 = (120, 260, 0) := by decide
instance c8 {h : LH} : FnC Tryd.prog 8 [] h (.bool true) := by
  refine ⟨Con.intro (m := 0) Tryd.func8 rfl Tryd.ntmps8 rfl (by decide) ?_⟩
  intro main S hS c cs hc
  repeat (first | refine hS.seq ?_ | refine hS.regionW ?_ | refine W.pop ?_ | refine W.yes ?_ | refine W.no ?_ | refine W.box (fun _ _ => ?_) | refine W.alloc (fun _ _ => ?_) | refine W.store ?_ | refine W.bs (fun _ _ => ?_) | refine W.fn hS (fun _ _ => ?_) | refine WL.nil ?_ | refine R.condT hS ?_ | refine R.condF hS ?_ | refine hS.skip ?_ | refine hS.block ?_ | refine hS.inBlock ?_ | refine R.ret hS ?_ | refine R.fin hS ?_ | refine R.begin hS ?_ | refine R.endRound hS ?_ | refine R.retRound hS ?_ | refine R.retC hS ?_ | refine R.endRangeDone hS ?_ | refine R.endRangeRet hS ?_)
  refine W.call hS c29 (fun r h1 hr => ?_)
  obtain ⟨x1, vo, vh, vm, rfl, so, sh, sm, e1, e2, e3⟩ := hr
  have x1c : ExtC _ h1 := ⟨x1⟩
  have s1 : SlAt h1 2 vo (exL.map Pt.c) := ⟨e1⟩
  have s2 : SlAt h1 4 vh (exH.map Bx.cs) := ⟨e2⟩
  have s3 : SlAt h1 4 vm (exM.map Mk.c) := ⟨e3⟩
  have g1 : GtC exL.length 4611686018427387904 := ⟨by decide⟩
  have g2 : GtC exH.length 4611686018427387904 := ⟨by decide⟩
  have g3 : GtC exM.length 4611686018427387904 := ⟨by decide⟩
  repeat (first | refine hS.seq ?_ | refine hS.regionW ?_ | refine W.pop ?_ | refine W.yes ?_ | refine W.no ?_ | refine W.box (fun _ _ => ?_) | refine W.alloc (fun _ _ => ?_) | refine W.store ?_ | refine W.bs (fun _ _ => ?_) | refine W.fn hS (fun _ _ => ?_) | refine WL.nil ?_ | refine R.condT hS ?_ | refine R.condF hS ?_ | refine hS.skip ?_ | refine hS.block ?_ | refine hS.inBlock ?_ | refine R.ret hS ?_ | refine R.fin hS ?_ | refine R.begin hS ?_ | refine R.endRound hS ?_ | refine R.retRound hS ?_ | refine R.retC hS ?_ | refine R.endRangeDone hS ?_ | refine R.endRangeRet hS ?_)
  have b1 : IsC ((0 : Int) == 0) true := ⟨rfl⟩
  have b2 : IsC ((boundsE exL exH 2 100 300 exM 20 10).1 == 120 && ((boundsE exL exH 2 100 300 exM 20 10).2.1 == 260 && true)) true := ⟨by rw [exB]; decide⟩
  have b4 : IsC ((boundsE exL exH 2 100 300 exM 20 10).2.2 == 0) true := ⟨by rw [exB]; decide⟩
  have b3 : IsC ((165 : Int) == 165 && ((495 : Int) == 495 && true)) true := ⟨by decide⟩
  repeat (first | refine hS.seq ?_ | refine hS.regionW ?_ | refine W.pop ?_ | refine W.yes ?_ | refine W.no ?_ | refine W.box (fun _ _ => ?_) | refine W.alloc (fun _ _ => ?_) | refine W.store ?_ | refine W.bs (fun _ _ => ?_) | refine W.fn hS (fun _ _ => ?_) | refine WL.nil ?_ | refine R.condT hS ?_ | refine R.condF hS ?_ | refine hS.skip ?_ | refine hS.block ?_ | refine hS.inBlock ?_ | refine R.ret hS ?_ | refine R.fin hS ?_ | refine R.begin hS ?_ | refine R.endRound hS ?_ | refine R.retRound hS ?_ | refine R.retC hS ?_ | refine R.endRangeDone hS ?_ | refine R.endRangeRet hS ?_)
  refine hc _ _ ⟨?_, Ext0.out⟩
  rfl
end Go.Proofs.YtankmjkogcbnfaaDoor
