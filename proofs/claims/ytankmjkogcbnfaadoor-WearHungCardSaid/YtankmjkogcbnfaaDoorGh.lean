/-
  Plain: what the search finds; ways; what a flow is, and how it grows along a way.
-/
import Derived.Test.YtankmjkogcbnfaaDoorGg
import Derived.Test.YtankmjkogcbnfaaDoorGc
namespace Go.Proofs.YtankmjkogcbnfaaDoor
open Go Go.SL Go.Conc
/-- What a range's body leaves alone: what the range itself has made since the round began. -/
structure Kept (h0 h1 h : LH) : Prop where
  get : ∀ b o, h0.get b = none → h1.get b = some o → h.get b = some o
  own : ∀ b, h0.get b = none → h1.own b → h.own b
theorem Kept.refl {h0 h1 : LH} : Kept h0 h1 h1 := ⟨fun _ _ _ x => x, fun _ _ x => x⟩
class KpC (h0 h1 : outParam LH) (h : LH) : Prop where out : Kept h0 h1 h
instance kpU {h0 h1 h : LH} {c : Nat} {o : Obj} [p : KpC h0 h1 h] [d : DomC h0 c] : KpC h0 h1 (h.upd c o) := ⟨fun b y hb hy => by
  have hne : b ≠ c := fun e => d.out (e ▸ hb)
  simp only [LH.upd, if_neg hne]; exact p.out.get b y hb hy, fun b hb hy => .inl (p.out.own b hb hy)⟩
instance (priority := high) kpF {h0 h1 h : LH} {c : Nat} {o : Obj} [f : FreshAt h c] [p : KpC h0 h1 h] : KpC h0 h1 (h.upd c o) := ⟨fun b y hb hy => by
  have := p.out.get b y hb hy
  have hne : b ≠ c := fun e => by subst e; rw [f.out] at this; cases this
  simp only [LH.upd, if_neg hne]; exact this, fun b hb hy => .inl (p.out.own b hb hy)⟩
instance kpX {h0 h1 h h' : LH} [x : ExtC h h'] [p : KpC h0 h1 h] : KpC h0 h1 h' := ⟨fun b y hb hy => x.out.get b y (p.out.get b y hb hy), fun b hb hy => x.out.own b (p.out.own b hb hy)⟩
/-- What was there is still there, whatever it holds. -/
class DmC (h0 h : LH) : Prop where out : ∀ b, h.get b = none → h0.get b = none
instance (priority := high) dmR {h : LH} : DmC h h := ⟨fun _ x => x⟩
instance dmU {h0 h : LH} {c : Nat} {o : Obj} [p : DmC h0 h] : DmC h0 (h.upd c o) := ⟨fun b hb => p.out b (by
  simp only [LH.upd] at hb; split at hb
  · cases hb
  · exact hb)⟩
instance dmX {h0 h h' : LH} [x : ExtC h h'] [p : DmC h0 h] : DmC h0 h' := ⟨fun b hb => p.out b (fresh_of hb x.out)⟩
instance (priority := low) f0D {h0 h : LH} {b : Nat} [q : FreshAt h b] [p : DmC h0 h] : Fresh0 h0 b := ⟨p.out b q.out⟩
instance kpN {h0 h1 h : LH} {c : Nat} {o : Obj} [p : KpC h0 h1 h] [f : Fresh0 h1 c] : KpC h0 h1 (h.upd c o) := ⟨fun b y hb hy => by
  have hne : b ≠ c := fun e => by subst e; rw [f.out] at hy; cases hy
  simp only [LH.upd, if_neg hne]; exact p.out.get b y hb hy, fun b hb hy => .inl (p.out.own b hb hy)⟩
theorem Kept.hg {h0 h1 h : LH} {b : Nat} {o : Obj} (k : Kept h0 h1 h) [f : FreshAt h0 b] [g : HGC h1 b o] : HGC h b o := ⟨k.get b o f.out g.out⟩
attribute [local irreducible] putE ofL Look Nth Ev HG Own SubL Wr Sgl EvL LH.upd WL OpS Any Con PopW Pop
theorem eqcSpot4' (x y : Spot) : EqC Tryd.prog 4 206 (spotK x) (spotK y) (decide (x = y)) := by
  rw [← eqSpot]
  infer_instance
instance (priority := high) eqcSpot4 {t u : Int} {a b c d : Bool} : EqC Tryd.prog 4 206 (.agg (List.toArray [.int .i64 t, .bool a, .bool b])) (.agg (List.toArray [.int .i64 u, .bool c, .bool d])) (decide ((⟨t, a, b⟩ : Spot) = ⟨u, c, d⟩)) := eqcSpot4' ⟨t, a, b⟩ ⟨u, c, d⟩

theorem c203 {h : LH} {p : Nat} {t : Int} {a b : Bool} : Con Tryd.prog 203 [.pointer (some ⟨p, 0, none⟩), .agg (List.toArray [.int .i64 t, .bool a, .bool b])] h (fun r h' => ∃ bf bs, r = .func (.func 211) #[] (List.toArray [.pointer (some ⟨bf, 0, none⟩), .pointer (some ⟨bs, 0, none⟩)]) ∧ FreshAt h bf ∧ FreshAt h bs ∧ NeB bf bs ∧ Ext h h' ∧
    HGC h' bf (.cells (List.toArray [.pointer (some ⟨p, 0, none⟩)]) 198 (0, 0)) ∧ HGC h' bs (.cells (List.toArray [.int .i64 t, .bool a, .bool b]) 206 (0, 0))) := by
  refine Con.intro (m := 2) Tryd.func203 rfl Tryd.ntmps203 rfl (by decide) ?_
  intro main S hS c cs hc
  repeat (first | refine hS.seq ?_ | refine hS.regionW ?_ | refine W.pop ?_ | refine W.yes ?_ | refine W.no ?_ | refine W.box (fun _ _ => ?_) | refine W.alloc (fun _ _ => ?_) | refine W.store ?_ | refine W.bs (fun _ _ => ?_) | refine W.fn hS (fun _ _ => ?_) | refine WL.nil ?_ | refine R.condT hS ?_ | refine R.condF hS ?_ | refine hS.skip ?_ | refine hS.block ?_ | refine hS.inBlock ?_ | refine R.ret hS ?_ | refine R.fin hS ?_ | refine R.begin hS ?_ | refine R.endRound hS ?_ | refine R.retRound hS ?_ | refine R.retC hS ?_ | refine R.endRangeDone hS ?_ | refine R.endRangeRet hS ?_)
  rename_i q2 f2 q3 f3
  have f3' : FreshAt h q3 := ⟨(inferInstance : Fresh0 h q3).out⟩
  exact hc _ _ ⟨q2, q3, rfl, f2, f3', inferInstance, Ext0.out, inferInstance, inferInstance⟩

theorem it211 {main : Bool} {S : LH → Goroutine → Prop} (hS : Regime Tryd.prog main S) {ps : List Pipe} {has most : Pipe → Option Int} {x : Spot} {p rh rm bf bs lp r : Nat} {sl : Value} {fnx : FuncId} {tmps : Array Value} {j : Tmp} {assign body : Code} (hn : ps.length ≤ 4611686018427387904)
    (hnw : ∀ q ∈ ps, NoW (amt most q - amt has q)) (Inv : Nat → LH → Prop) {hs : LH} (c0 : Frame) (cs : List Frame) (hext : ∀ i h h', Inv i h → Ext h h' → Inv i h')
    (hkn : ∀ i h, Inv i h → HGC h bf (.cells (List.toArray [.pointer (some ⟨p, 0, none⟩)]) 198 (0, 0)) ∧ HGC h bs (.cells (List.toArray [.int .i64 x.t, .bool x.a, .bool x.b]) 206 (0, 0)) ∧ HGC h p (.cells (List.toArray [sl, .map (some rh), .map (some rm)]) 211 (0, 0)) ∧ SlC h 7 sl (ps.map Pipe.c) ∧
      (∃ es c, HGC h rh (.map es c) ∧ MiC pipeK intK es c has) ∧ (∃ es c, HGC h rm (.map es c) ∧ MiC pipeK intK es c most) ∧ HGC h lp (.loop (lpr .ready none fnx tmps #[j] assign body r)))
    (hyield : ∀ (i : Nat) (s : Step), (stepsAt has most ps x)[i]? = some s → ∀ h' h1, Inv i h' → Ext h' h1 → ∀ c, (∀ h'', Inv (i + 1) h'' → Kept h' h1 h'' → S h'' (G (c.finish (.bool true)) (c0 :: cs))) → S h1 (G (Frame.round lp fnx (tmps.setIfInBounds j (stepV s)) assign body .normal) (c :: c0 :: cs)))
    (hdone : ∀ h', Inv (stepsAt has most ps x).length h' → S h' (G (c0.finish (.tuple #[])) cs)) (h0 : Inv 0 hs) :
    S hs (G (Frame.enter Tryd.prog 211 (.func (.yield lp) #[] #[] :: [.pointer (some ⟨bf, 0, none⟩), .pointer (some ⟨bs, 0, none⟩)]).toArray .normal) (c0 :: cs)) := by
  rw [enter_eq Tryd.func211 rfl (by show 3 ≤ _; decide), Tryd.ntmps211]
  obtain ⟨k1, k2, k3, k4, ⟨eh, ch, k5, k6⟩, ⟨em, cm, k7, k8⟩, k9⟩ := hkn 0 hs h0
  have k4' : SlAt hs 7 sl (ps.map Pipe.c) := ⟨k4.out⟩
  have tnt : IsC (!true) false := ⟨rfl⟩
  repeat (first | refine hS.seq ?_ | refine hS.regionW ?_ | refine W.pop ?_ | refine W.yes ?_ | refine W.no ?_ | refine W.box (fun _ _ => ?_) | refine W.alloc (fun _ _ => ?_) | refine W.store ?_ | refine W.bs (fun _ _ => ?_) | refine W.fn hS (fun _ _ => ?_) | refine WL.nil ?_ | refine R.condT hS ?_ | refine R.condF hS ?_ | refine hS.skip ?_ | refine hS.block ?_ | refine hS.inBlock ?_ | refine R.ret hS ?_ | refine R.fin hS ?_ | refine R.begin hS ?_ | refine R.endRound hS ?_ | refine R.retRound hS ?_ | refine R.retC hS ?_ | refine R.endRangeDone hS ?_ | refine R.endRangeRet hS ?_)
  refine hS.loop ?_
  refine loop_ind (fun (i : Nat) => ps.length - i) (fun i E h' => i ≤ ps.length ∧ LookC E 0 (.func (.yield lp) #[] #[]) ∧ LookC E 1 (.pointer (some ⟨bf, 0, none⟩)) ∧ LookC E 2 (.pointer (some ⟨bs, 0, none⟩)) ∧ LookC E 10 sl ∧ LookC E 11 (.int .i64 ps.length) ∧ LookC E 12 (.int .i64 (i : Nat)) ∧ Inv (stepsAt has most (ps.take i) x).length h') ?_ 0 _ _ ⟨Nat.zero_le _, inferInstance, inferInstance, inferInstance, inferInstance, inferInstance, inferInstance, by simpa [stepsAt] using h0⟩
  clear k1 k2 k3 k4 k4' k5 k6 k7 k8 k9
  rintro i E h' ⟨hi, l0, l1, l2, l10, l11, l12, hq⟩ ih
  obtain ⟨k1, k2, k3, k4, ⟨eh, ch, k5, k6⟩, ⟨em, cm, k7, k8⟩, k9⟩ := hkn _ h' hq
  have k4' : SlAt h' 7 sl (ps.map Pipe.c) := ⟨k4.out⟩
  by_cases hlt : i < ps.length
  · have ix : IxC ps i ps[i] := ⟨by simp [hlt]⟩
    have hmem : ps[i] ∈ ps := List.getElem_mem hlt
    have t1 : IsC (decide ((i : Int) < (ps.length : Int))) true := ⟨by simp [hlt]⟩
    have nw : NoW ((i : Int) + 1) := NoW.of (by omega) (by omega)
    have ei : ((i + 1 : Nat) : Int) = (i : Int) + 1 := by omega
    have hnwi := hnw _ hmem
    have nwi : NoW ((most ⟨⟨ps[i].frm.t, ps[i].frm.a, ps[i].frm.b⟩, ⟨ps[i].to.t, ps[i].to.a, ps[i].to.b⟩, ps[i].tie⟩).getD 0 - (has ⟨⟨ps[i].frm.t, ps[i].frm.a, ps[i].frm.b⟩, ⟨ps[i].to.t, ps[i].to.a, ps[i].to.b⟩, ps[i].tie⟩).getD 0) := hnwi
    have hsp := stepsAt_split (has := has) (most := most) (x := x) hlt
    have hsn := stepsAt_snoc (has := has) (most := most) (x := x) hlt
    generalize hj : stepsAt has most (ps.take i) x = pre at hq hsp hsn
    have hget : ∀ (k : Nat) (s : Step), (stepsOf has most x ps[i])[k]? = some s → (stepsAt has most ps x)[pre.length + k]? = some s := by
      intro k s hk
      rw [hsp, List.getElem?_append_right (by omega), Nat.add_sub_cancel_left]
      rw [List.getElem?_append_left (List.getElem?_eq_some_iff.1 hk).1]; exact hk
    repeat (first | refine hS.seq ?_ | refine hS.regionW ?_ | refine W.pop ?_ | refine W.yes ?_ | refine W.no ?_ | refine W.box (fun _ _ => ?_) | refine W.alloc (fun _ _ => ?_) | refine W.store ?_ | refine W.bs (fun _ _ => ?_) | refine W.fn hS (fun _ _ => ?_) | refine WL.nil ?_ | refine R.condT hS ?_ | refine R.condF hS ?_ | refine hS.skip ?_ | refine hS.block ?_ | refine hS.inBlock ?_ | refine R.ret hS ?_ | refine R.fin hS ?_ | refine R.begin hS ?_ | refine R.endRound hS ?_ | refine R.retRound hS ?_ | refine R.retC hS ?_ | refine R.endRangeDone hS ?_ | refine R.endRangeRet hS ?_)
    rename_i q5 f5
    refine hS.regionA mixed [] ?_
    refine A.take 0 rfl (by kernel_rfl) (by intro _ _ e; cases e) ?_
    refine A.take 1 rfl (by kernel_rfl) (by intro _ _ e; cases e) ?_
    refine A.take 2 rfl (by kernel_rfl) (by intro _ _ e; cases e) ?_
    refine A.take 3 rfl (by kernel_rfl) (by intro _ _ e; cases e) ?_
    refine A.take 4 rfl (by kernel_rfl) (by intro _ _ e; cases e) ?_
    refine A.take 5 rfl (by kernel_rfl) (by intro _ _ e; cases e) ?_
    refine A.take 6 rfl (by kernel_rfl) (by intro _ _ e; cases e) ?_
    refine A.take 7 rfl (by kernel_rfl) (by intro _ _ e; cases e) ?_
    refine A.take 8 rfl (by kernel_rfl) (by intro _ _ e; cases e) ?_
    refine A.take 9 rfl (by kernel_rfl) (by intro _ _ e; cases e) ?_
    refine A.take 10 rfl (by kernel_rfl) (by intro _ _ e; cases e) ?_
    refine A.take 11 rfl (by kernel_rfl) (by intro _ _ e; cases e) ?_
    refine A.take 12 rfl (by kernel_rfl) (by intro _ _ e; cases e) ?_
    refine A.take 13 rfl (by kernel_rfl) (by intro _ _ e; cases e) ?_
    refine Any.done (by kernel_rfl) ?_
    repeat (first | refine hS.seq ?_ | refine hS.regionW ?_ | refine W.pop ?_ | refine W.yes ?_ | refine W.no ?_ | refine W.box (fun _ _ => ?_) | refine W.alloc (fun _ _ => ?_) | refine W.store ?_ | refine W.bs (fun _ _ => ?_) | refine W.fn hS (fun _ _ => ?_) | refine WL.nil ?_ | refine R.condT hS ?_ | refine R.condF hS ?_ | refine hS.skip ?_ | refine hS.block ?_ | refine hS.inBlock ?_ | refine R.ret hS ?_ | refine R.fin hS ?_ | refine R.begin hS ?_ | refine R.endRound hS ?_ | refine R.retRound hS ?_ | refine R.retC hS ?_ | refine R.endRangeDone hS ?_ | refine R.endRangeRet hS ?_)
    by_cases hc1 : ps[i].frm = x ∧ amt most ps[i] - amt has ps[i] > 0
    · have a1 : IsC (decide ((⟨ps[i].frm.t, ps[i].frm.a, ps[i].frm.b⟩ : Spot) = ⟨x.t, x.a, x.b⟩)) true := ⟨decide_eq_true hc1.1⟩
      have a2 : IsC (decide ((most ⟨⟨ps[i].frm.t, ps[i].frm.a, ps[i].frm.b⟩, ⟨ps[i].to.t, ps[i].to.a, ps[i].to.b⟩, ps[i].tie⟩).getD 0 - (has ⟨⟨ps[i].frm.t, ps[i].frm.a, ps[i].frm.b⟩, ⟨ps[i].to.t, ps[i].to.a, ps[i].to.b⟩, ps[i].tie⟩).getD 0 > 0)) true := ⟨decide_eq_true hc1.2⟩
      repeat (first | refine hS.seq ?_ | refine hS.regionW ?_ | refine W.pop ?_ | refine W.yes ?_ | refine W.no ?_ | refine W.box (fun _ _ => ?_) | refine W.alloc (fun _ _ => ?_) | refine W.store ?_ | refine W.bs (fun _ _ => ?_) | refine W.fn hS (fun _ _ => ?_) | refine WL.nil ?_ | refine R.condT hS ?_ | refine R.condF hS ?_ | refine hS.skip ?_ | refine hS.block ?_ | refine hS.inBlock ?_ | refine R.ret hS ?_ | refine R.fin hS ?_ | refine R.begin hS ?_ | refine R.endRound hS ?_ | refine R.retRound hS ?_ | refine R.retC hS ?_ | refine R.endRangeDone hS ?_ | refine R.endRangeRet hS ?_)
      refine W.yield1 (R := fun r h'' => r = .bool true ∧ Inv (pre.length + 1) h'' ∧ HGC h'' q5 (.cells (List.toArray (Pipe.c ps[i])) 208 (0, 0))) (fun c hcc => hyield pre.length ⟨ps[i], false, amt most ps[i] - amt has ps[i]⟩ (hget 0 _ (by unfold stepsOf; rw [if_pos hc1]; rfl)) h' _ hq (Ext0.out (h₀ := h')) c (fun h'' q kp => hcc _ _ ⟨rfl, q, kp.hg⟩)) (fun r h4 hr => ?_)
      obtain ⟨rfl, hq4, g5⟩ := hr
      clear k1 k2 k3 k4 k4' k5 k6 k7 k8 k9
      obtain ⟨k1, k2, k3, k4, ⟨eh, ch, k5, k6⟩, ⟨em, cm, k7, k8⟩, k9⟩ := hkn _ h4 hq4
      simp only [Pipe.c] at g5
      repeat (first | refine hS.seq ?_ | refine hS.regionW ?_ | refine W.pop ?_ | refine W.yes ?_ | refine W.no ?_ | refine W.box (fun _ _ => ?_) | refine W.alloc (fun _ _ => ?_) | refine W.store ?_ | refine W.bs (fun _ _ => ?_) | refine W.fn hS (fun _ _ => ?_) | refine WL.nil ?_ | refine R.condT hS ?_ | refine R.condF hS ?_ | refine hS.skip ?_ | refine hS.block ?_ | refine hS.inBlock ?_ | refine R.ret hS ?_ | refine R.fin hS ?_ | refine R.begin hS ?_ | refine R.endRound hS ?_ | refine R.retRound hS ?_ | refine R.retC hS ?_ | refine R.endRangeDone hS ?_ | refine R.endRangeRet hS ?_)
      by_cases hc2 : ps[i].to = x ∧ amt has ps[i] > 0
      · have b1 : IsC (decide ((⟨ps[i].to.t, ps[i].to.a, ps[i].to.b⟩ : Spot) = ⟨x.t, x.a, x.b⟩)) true := ⟨decide_eq_true hc2.1⟩
        have b2 : IsC (decide ((has ⟨⟨ps[i].frm.t, ps[i].frm.a, ps[i].frm.b⟩, ⟨ps[i].to.t, ps[i].to.a, ps[i].to.b⟩, ps[i].tie⟩).getD 0 > 0)) true := ⟨decide_eq_true hc2.2⟩
        refine hS.regionA mixed [23] ?_
        refine A.take 0 rfl (by kernel_rfl) (by intro _ _ e; cases e) ?_
        refine A.take 1 rfl (by kernel_rfl) (by intro _ _ e; cases e) ?_
        refine A.take 2 rfl (by kernel_rfl) (by intro _ _ e; cases e) ?_
        first | (refine A.takeM 3 rfl (by kernel_rfl) (by intro _ _ e; cases e) ?_) | (refine A.take 3 rfl (by kernel_rfl) (by intro _ _ e; cases e) ?_)
        first | (refine A.takeM 4 rfl (by kernel_rfl) (by intro _ _ e; cases e) ?_) | (refine A.take 4 rfl (by kernel_rfl) (by intro _ _ e; cases e) ?_)
        first | (refine A.takeN 5 rfl (by kernel_rfl) (by intro _ _ e; cases e) ?_) | (refine A.takeY 5 rfl (by kernel_rfl) (by intro _ _ e; cases e) ?_)
        first | (refine A.takeN 6 rfl (by kernel_rfl) (by intro _ _ e; cases e) ?_) | (refine A.takeY 6 rfl (by kernel_rfl) (by intro _ _ e; cases e) ?_)
        first | (refine A.takeN 7 rfl (by kernel_rfl) (by intro _ _ e; cases e) ?_) | (refine A.takeY 7 rfl (by kernel_rfl) (by intro _ _ e; cases e) ?_)
        first | (refine A.takeN 8 rfl (by kernel_rfl) (by intro _ _ e; cases e) ?_) | (refine A.takeY 8 rfl (by kernel_rfl) (by intro _ _ e; cases e) ?_)
        first | (refine A.takeN 9 rfl (by kernel_rfl) (by intro _ _ e; cases e) ?_) | (refine A.takeY 9 rfl (by kernel_rfl) (by intro _ _ e; cases e) ?_)
        first | (refine A.takeN 10 rfl (by kernel_rfl) (by intro _ _ e; cases e) ?_) | (refine A.takeY 10 rfl (by kernel_rfl) (by intro _ _ e; cases e) ?_)
        first | (refine A.takeN 11 rfl (by kernel_rfl) (by intro _ _ e; cases e) ?_) | (refine A.takeY 11 rfl (by kernel_rfl) (by intro _ _ e; cases e) ?_)
        refine A.take 12 rfl (by kernel_rfl) (by intro _ _ e; cases e) ?_
        first | (refine A.takeM 13 rfl (by kernel_rfl) (by intro _ _ e; cases e) ?_) | (refine A.take 13 rfl (by kernel_rfl) (by intro _ _ e; cases e) ?_)
        first | (refine A.takeN 14 rfl (by kernel_rfl) (by intro _ _ e; cases e) ?_) | (refine A.takeY 14 rfl (by kernel_rfl) (by intro _ _ e; cases e) ?_)
        first | (refine A.takeN 15 rfl (by kernel_rfl) (by intro _ _ e; cases e) ?_) | (refine A.takeY 15 rfl (by kernel_rfl) (by intro _ _ e; cases e) ?_)
        first | (refine A.takeN 16 rfl (by kernel_rfl) (by intro _ _ e; cases e) ?_) | (refine A.takeY 16 rfl (by kernel_rfl) (by intro _ _ e; cases e) ?_)
        first | (refine A.takeN 17 rfl (by kernel_rfl) (by intro _ _ e; cases e) ?_) | (refine A.takeY 17 rfl (by kernel_rfl) (by intro _ _ e; cases e) ?_)
        first | (refine A.takeN 18 rfl (by kernel_rfl) (by intro _ _ e; cases e) ?_) | (refine A.takeY 18 rfl (by kernel_rfl) (by intro _ _ e; cases e) ?_)
        first | (refine A.takeN 19 rfl (by kernel_rfl) (by intro _ _ e; cases e) ?_) | (refine A.takeY 19 rfl (by kernel_rfl) (by intro _ _ e; cases e) ?_)
        first | (refine A.takeN 20 rfl (by kernel_rfl) (by intro _ _ e; cases e) ?_) | (refine A.takeY 20 rfl (by kernel_rfl) (by intro _ _ e; cases e) ?_)
        first | (refine A.takeN 21 rfl (by kernel_rfl) (by intro _ _ e; cases e) ?_) | (refine A.takeY 21 rfl (by kernel_rfl) (by intro _ _ e; cases e) ?_)
        first | (refine A.takeN 22 rfl (by kernel_rfl) (by intro _ _ e; cases e) ?_) | (refine A.takeY 22 rfl (by kernel_rfl) (by intro _ _ e; cases e) ?_)
        refine A.one 23 rfl (by kernel_rfl) ?_
        refine W.yes ?_
        refine W.yield1 (R := fun r h'' => r = .bool true ∧ Inv (pre.length + 1 + 1) h'') (fun c hcc => hyield (pre.length + 1) ⟨ps[i], true, amt has ps[i]⟩ (hget 1 _ (by unfold stepsOf; rw [if_pos hc1, if_pos hc2]; rfl)) h4 _ hq4 (Ext0.out (h₀ := h4)) c (fun h'' q _ => hcc _ _ ⟨rfl, q⟩)) (fun r h5 hr => ?_)
        obtain ⟨rfl, hq5⟩ := hr
        refine A.hard (by rfl) ?_
        first | (refine A.takeN 24 rfl (by kernel_rfl) (by intro _ _ e; cases e) ?_) | (refine A.takeY 24 rfl (by kernel_rfl) (by intro _ _ e; cases e) ?_)
        refine A.take 25 rfl (by kernel_rfl) (by intro _ _ e; cases e) ?_
        refine Any.done (by kernel_rfl) ?_
        repeat (first | refine hS.seq ?_ | refine hS.regionW ?_ | refine W.pop ?_ | refine W.yes ?_ | refine W.no ?_ | refine W.box (fun _ _ => ?_) | refine W.alloc (fun _ _ => ?_) | refine W.store ?_ | refine W.bs (fun _ _ => ?_) | refine W.fn hS (fun _ _ => ?_) | refine WL.nil ?_ | refine R.condT hS ?_ | refine R.condF hS ?_ | refine hS.skip ?_ | refine hS.block ?_ | refine hS.inBlock ?_ | refine R.ret hS ?_ | refine R.fin hS ?_ | refine R.begin hS ?_ | refine R.endRound hS ?_ | refine R.retRound hS ?_ | refine R.retC hS ?_ | refine R.endRangeDone hS ?_ | refine R.endRangeRet hS ?_)
        refine hS.inLoop ?_
        refine ih (i + 1) _ _ (by omega) ⟨hlt, inferInstance, inferInstance, inferInstance, inferInstance, inferInstance, by rw [ei]; infer_instance, ?_⟩
        rw [hsn, List.length_append]
        have : (stepsOf has most x ps[i]).length = 1 + 1 := by unfold stepsOf; rw [if_pos hc1, if_pos hc2]; rfl
        rw [this]; exact hq5
      · have hst : (stepsOf has most x ps[i]).length = 1 := by unfold stepsOf; rw [if_pos hc1, if_neg hc2]; rfl
        have fin : Inv (stepsAt has most (ps.take (i + 1)) x).length h4 := by rw [hsn, List.length_append, hst]; exact hq4
        by_cases hc3 : ps[i].to = x
        · have b1 : IsC (decide ((⟨ps[i].to.t, ps[i].to.a, ps[i].to.b⟩ : Spot) = ⟨x.t, x.a, x.b⟩)) true := ⟨decide_eq_true hc3⟩
          have b2 : IsC (decide ((has ⟨⟨ps[i].frm.t, ps[i].frm.a, ps[i].frm.b⟩, ⟨ps[i].to.t, ps[i].to.a, ps[i].to.b⟩, ps[i].tie⟩).getD 0 > 0)) false := ⟨decide_eq_false fun h => hc2 ⟨hc3, h⟩⟩
          refine hS.regionA mixed [23] ?_
          refine A.take 0 rfl (by kernel_rfl) (by intro _ _ e; cases e) ?_
          refine A.take 1 rfl (by kernel_rfl) (by intro _ _ e; cases e) ?_
          refine A.take 2 rfl (by kernel_rfl) (by intro _ _ e; cases e) ?_
          first | (refine A.takeM 3 rfl (by kernel_rfl) (by intro _ _ e; cases e) ?_) | (refine A.take 3 rfl (by kernel_rfl) (by intro _ _ e; cases e) ?_)
          first | (refine A.takeM 4 rfl (by kernel_rfl) (by intro _ _ e; cases e) ?_) | (refine A.take 4 rfl (by kernel_rfl) (by intro _ _ e; cases e) ?_)
          first | (refine A.takeN 5 rfl (by kernel_rfl) (by intro _ _ e; cases e) ?_) | (refine A.takeY 5 rfl (by kernel_rfl) (by intro _ _ e; cases e) ?_)
          first | (refine A.takeN 6 rfl (by kernel_rfl) (by intro _ _ e; cases e) ?_) | (refine A.takeY 6 rfl (by kernel_rfl) (by intro _ _ e; cases e) ?_)
          first | (refine A.takeN 7 rfl (by kernel_rfl) (by intro _ _ e; cases e) ?_) | (refine A.takeY 7 rfl (by kernel_rfl) (by intro _ _ e; cases e) ?_)
          first | (refine A.takeN 8 rfl (by kernel_rfl) (by intro _ _ e; cases e) ?_) | (refine A.takeY 8 rfl (by kernel_rfl) (by intro _ _ e; cases e) ?_)
          first | (refine A.takeN 9 rfl (by kernel_rfl) (by intro _ _ e; cases e) ?_) | (refine A.takeY 9 rfl (by kernel_rfl) (by intro _ _ e; cases e) ?_)
          first | (refine A.takeN 10 rfl (by kernel_rfl) (by intro _ _ e; cases e) ?_) | (refine A.takeY 10 rfl (by kernel_rfl) (by intro _ _ e; cases e) ?_)
          first | (refine A.takeN 11 rfl (by kernel_rfl) (by intro _ _ e; cases e) ?_) | (refine A.takeY 11 rfl (by kernel_rfl) (by intro _ _ e; cases e) ?_)
          refine A.take 12 rfl (by kernel_rfl) (by intro _ _ e; cases e) ?_
          first | (refine A.takeM 13 rfl (by kernel_rfl) (by intro _ _ e; cases e) ?_) | (refine A.take 13 rfl (by kernel_rfl) (by intro _ _ e; cases e) ?_)
          first | (refine A.takeN 14 rfl (by kernel_rfl) (by intro _ _ e; cases e) ?_) | (refine A.takeY 14 rfl (by kernel_rfl) (by intro _ _ e; cases e) ?_)
          first | (refine A.takeN 15 rfl (by kernel_rfl) (by intro _ _ e; cases e) ?_) | (refine A.takeY 15 rfl (by kernel_rfl) (by intro _ _ e; cases e) ?_)
          first | (refine A.takeN 16 rfl (by kernel_rfl) (by intro _ _ e; cases e) ?_) | (refine A.takeY 16 rfl (by kernel_rfl) (by intro _ _ e; cases e) ?_)
          first | (refine A.takeN 17 rfl (by kernel_rfl) (by intro _ _ e; cases e) ?_) | (refine A.takeY 17 rfl (by kernel_rfl) (by intro _ _ e; cases e) ?_)
          first | (refine A.takeN 18 rfl (by kernel_rfl) (by intro _ _ e; cases e) ?_) | (refine A.takeY 18 rfl (by kernel_rfl) (by intro _ _ e; cases e) ?_)
          first | (refine A.takeN 19 rfl (by kernel_rfl) (by intro _ _ e; cases e) ?_) | (refine A.takeY 19 rfl (by kernel_rfl) (by intro _ _ e; cases e) ?_)
          first | (refine A.takeN 20 rfl (by kernel_rfl) (by intro _ _ e; cases e) ?_) | (refine A.takeY 20 rfl (by kernel_rfl) (by intro _ _ e; cases e) ?_)
          first | (refine A.takeN 21 rfl (by kernel_rfl) (by intro _ _ e; cases e) ?_) | (refine A.takeY 21 rfl (by kernel_rfl) (by intro _ _ e; cases e) ?_)
          first | (refine A.takeN 22 rfl (by kernel_rfl) (by intro _ _ e; cases e) ?_) | (refine A.takeY 22 rfl (by kernel_rfl) (by intro _ _ e; cases e) ?_)
          refine A.one 23 rfl (by kernel_rfl) ?_
          first | (refine W.no ?_) | (refine W.yes ?_; first | refine W.pop ?_ | refine W.fn hS (fun _ _ => ?_) | refine W.bs (fun _ _ => ?_) | refine W.box (fun _ _ => ?_) | refine W.alloc (fun _ _ => ?_) | refine W.store ?_)
          refine A.hard (by rfl) ?_
          first | (refine A.takeN 24 rfl (by kernel_rfl) (by intro _ _ e; cases e) ?_) | (refine A.takeY 24 rfl (by kernel_rfl) (by intro _ _ e; cases e) ?_)
          refine A.take 25 rfl (by kernel_rfl) (by intro _ _ e; cases e) ?_
          refine Any.done (by kernel_rfl) ?_
          repeat (first | refine hS.seq ?_ | refine hS.regionW ?_ | refine W.pop ?_ | refine W.yes ?_ | refine W.no ?_ | refine W.box (fun _ _ => ?_) | refine W.alloc (fun _ _ => ?_) | refine W.store ?_ | refine W.bs (fun _ _ => ?_) | refine W.fn hS (fun _ _ => ?_) | refine WL.nil ?_ | refine R.condT hS ?_ | refine R.condF hS ?_ | refine hS.skip ?_ | refine hS.block ?_ | refine hS.inBlock ?_ | refine R.ret hS ?_ | refine R.fin hS ?_ | refine R.begin hS ?_ | refine R.endRound hS ?_ | refine R.retRound hS ?_ | refine R.retC hS ?_ | refine R.endRangeDone hS ?_ | refine R.endRangeRet hS ?_)
          refine hS.inLoop ?_
          exact ih (i + 1) _ _ (by omega) ⟨hlt, inferInstance, inferInstance, inferInstance, inferInstance, inferInstance, by rw [ei]; infer_instance, hext _ _ _ fin (Ext0.out (h₀ := h4))⟩
        · have b1 : IsC (decide ((⟨ps[i].to.t, ps[i].to.a, ps[i].to.b⟩ : Spot) = ⟨x.t, x.a, x.b⟩)) false := ⟨decide_eq_false hc3⟩
          refine hS.regionA mixed [23] ?_
          refine A.take 0 rfl (by kernel_rfl) (by intro _ _ e; cases e) ?_
          refine A.take 1 rfl (by kernel_rfl) (by intro _ _ e; cases e) ?_
          refine A.take 2 rfl (by kernel_rfl) (by intro _ _ e; cases e) ?_
          first | (refine A.takeM 3 rfl (by kernel_rfl) (by intro _ _ e; cases e) ?_) | (refine A.take 3 rfl (by kernel_rfl) (by intro _ _ e; cases e) ?_)
          first | (refine A.takeM 4 rfl (by kernel_rfl) (by intro _ _ e; cases e) ?_) | (refine A.take 4 rfl (by kernel_rfl) (by intro _ _ e; cases e) ?_)
          first | (refine A.takeN 5 rfl (by kernel_rfl) (by intro _ _ e; cases e) ?_) | (refine A.takeY 5 rfl (by kernel_rfl) (by intro _ _ e; cases e) ?_)
          first | (refine A.takeN 6 rfl (by kernel_rfl) (by intro _ _ e; cases e) ?_) | (refine A.takeY 6 rfl (by kernel_rfl) (by intro _ _ e; cases e) ?_)
          first | (refine A.takeN 7 rfl (by kernel_rfl) (by intro _ _ e; cases e) ?_) | (refine A.takeY 7 rfl (by kernel_rfl) (by intro _ _ e; cases e) ?_)
          first | (refine A.takeN 8 rfl (by kernel_rfl) (by intro _ _ e; cases e) ?_) | (refine A.takeY 8 rfl (by kernel_rfl) (by intro _ _ e; cases e) ?_)
          first | (refine A.takeN 9 rfl (by kernel_rfl) (by intro _ _ e; cases e) ?_) | (refine A.takeY 9 rfl (by kernel_rfl) (by intro _ _ e; cases e) ?_)
          first | (refine A.takeN 10 rfl (by kernel_rfl) (by intro _ _ e; cases e) ?_) | (refine A.takeY 10 rfl (by kernel_rfl) (by intro _ _ e; cases e) ?_)
          first | (refine A.takeN 11 rfl (by kernel_rfl) (by intro _ _ e; cases e) ?_) | (refine A.takeY 11 rfl (by kernel_rfl) (by intro _ _ e; cases e) ?_)
          refine A.take 12 rfl (by kernel_rfl) (by intro _ _ e; cases e) ?_
          first | (refine A.takeM 13 rfl (by kernel_rfl) (by intro _ _ e; cases e) ?_) | (refine A.take 13 rfl (by kernel_rfl) (by intro _ _ e; cases e) ?_)
          first | (refine A.takeN 14 rfl (by kernel_rfl) (by intro _ _ e; cases e) ?_) | (refine A.takeY 14 rfl (by kernel_rfl) (by intro _ _ e; cases e) ?_)
          first | (refine A.takeN 15 rfl (by kernel_rfl) (by intro _ _ e; cases e) ?_) | (refine A.takeY 15 rfl (by kernel_rfl) (by intro _ _ e; cases e) ?_)
          first | (refine A.takeN 16 rfl (by kernel_rfl) (by intro _ _ e; cases e) ?_) | (refine A.takeY 16 rfl (by kernel_rfl) (by intro _ _ e; cases e) ?_)
          first | (refine A.takeN 17 rfl (by kernel_rfl) (by intro _ _ e; cases e) ?_) | (refine A.takeY 17 rfl (by kernel_rfl) (by intro _ _ e; cases e) ?_)
          first | (refine A.takeN 18 rfl (by kernel_rfl) (by intro _ _ e; cases e) ?_) | (refine A.takeY 18 rfl (by kernel_rfl) (by intro _ _ e; cases e) ?_)
          first | (refine A.takeN 19 rfl (by kernel_rfl) (by intro _ _ e; cases e) ?_) | (refine A.takeY 19 rfl (by kernel_rfl) (by intro _ _ e; cases e) ?_)
          first | (refine A.takeN 20 rfl (by kernel_rfl) (by intro _ _ e; cases e) ?_) | (refine A.takeY 20 rfl (by kernel_rfl) (by intro _ _ e; cases e) ?_)
          first | (refine A.takeN 21 rfl (by kernel_rfl) (by intro _ _ e; cases e) ?_) | (refine A.takeY 21 rfl (by kernel_rfl) (by intro _ _ e; cases e) ?_)
          first | (refine A.takeN 22 rfl (by kernel_rfl) (by intro _ _ e; cases e) ?_) | (refine A.takeY 22 rfl (by kernel_rfl) (by intro _ _ e; cases e) ?_)
          refine A.one 23 rfl (by kernel_rfl) ?_
          first | (refine W.no ?_) | (refine W.yes ?_; first | refine W.pop ?_ | refine W.fn hS (fun _ _ => ?_) | refine W.bs (fun _ _ => ?_) | refine W.box (fun _ _ => ?_) | refine W.alloc (fun _ _ => ?_) | refine W.store ?_)
          refine A.hard (by rfl) ?_
          first | (refine A.takeN 24 rfl (by kernel_rfl) (by intro _ _ e; cases e) ?_) | (refine A.takeY 24 rfl (by kernel_rfl) (by intro _ _ e; cases e) ?_)
          refine A.take 25 rfl (by kernel_rfl) (by intro _ _ e; cases e) ?_
          refine Any.done (by kernel_rfl) ?_
          repeat (first | refine hS.seq ?_ | refine hS.regionW ?_ | refine W.pop ?_ | refine W.yes ?_ | refine W.no ?_ | refine W.box (fun _ _ => ?_) | refine W.alloc (fun _ _ => ?_) | refine W.store ?_ | refine W.bs (fun _ _ => ?_) | refine W.fn hS (fun _ _ => ?_) | refine WL.nil ?_ | refine R.condT hS ?_ | refine R.condF hS ?_ | refine hS.skip ?_ | refine hS.block ?_ | refine hS.inBlock ?_ | refine R.ret hS ?_ | refine R.fin hS ?_ | refine R.begin hS ?_ | refine R.endRound hS ?_ | refine R.retRound hS ?_ | refine R.retC hS ?_ | refine R.endRangeDone hS ?_ | refine R.endRangeRet hS ?_)
          refine hS.inLoop ?_
          exact ih (i + 1) _ _ (by omega) ⟨hlt, inferInstance, inferInstance, inferInstance, inferInstance, inferInstance, by rw [ei]; infer_instance, hext _ _ _ fin (Ext0.out (h₀ := h4))⟩
    · by_cases hc0 : ps[i].frm = x
      · have a1 : IsC (decide ((⟨ps[i].frm.t, ps[i].frm.a, ps[i].frm.b⟩ : Spot) = ⟨x.t, x.a, x.b⟩)) true := ⟨decide_eq_true hc0⟩
        have a2 : IsC (decide ((most ⟨⟨ps[i].frm.t, ps[i].frm.a, ps[i].frm.b⟩, ⟨ps[i].to.t, ps[i].to.a, ps[i].to.b⟩, ps[i].tie⟩).getD 0 - (has ⟨⟨ps[i].frm.t, ps[i].frm.a, ps[i].frm.b⟩, ⟨ps[i].to.t, ps[i].to.a, ps[i].to.b⟩, ps[i].tie⟩).getD 0 > 0)) false := ⟨decide_eq_false fun h => hc1 ⟨hc0, h⟩⟩
        repeat (first | refine hS.seq ?_ | refine hS.regionW ?_ | refine W.pop ?_ | refine W.yes ?_ | refine W.no ?_ | refine W.box (fun _ _ => ?_) | refine W.alloc (fun _ _ => ?_) | refine W.store ?_ | refine W.bs (fun _ _ => ?_) | refine W.fn hS (fun _ _ => ?_) | refine WL.nil ?_ | refine R.condT hS ?_ | refine R.condF hS ?_ | refine hS.skip ?_ | refine hS.block ?_ | refine hS.inBlock ?_ | refine R.ret hS ?_ | refine R.fin hS ?_ | refine R.begin hS ?_ | refine R.endRound hS ?_ | refine R.retRound hS ?_ | refine R.retC hS ?_ | refine R.endRangeDone hS ?_ | refine R.endRangeRet hS ?_)
        by_cases hc2 : ps[i].to = x ∧ amt has ps[i] > 0
        · have b1 : IsC (decide ((⟨ps[i].to.t, ps[i].to.a, ps[i].to.b⟩ : Spot) = ⟨x.t, x.a, x.b⟩)) true := ⟨decide_eq_true hc2.1⟩
          have b2 : IsC (decide ((has ⟨⟨ps[i].frm.t, ps[i].frm.a, ps[i].frm.b⟩, ⟨ps[i].to.t, ps[i].to.a, ps[i].to.b⟩, ps[i].tie⟩).getD 0 > 0)) true := ⟨decide_eq_true hc2.2⟩
          refine hS.regionA mixed [23] ?_
          refine A.take 0 rfl (by kernel_rfl) (by intro _ _ e; cases e) ?_
          refine A.take 1 rfl (by kernel_rfl) (by intro _ _ e; cases e) ?_
          refine A.take 2 rfl (by kernel_rfl) (by intro _ _ e; cases e) ?_
          first | (refine A.takeM 3 rfl (by kernel_rfl) (by intro _ _ e; cases e) ?_) | (refine A.take 3 rfl (by kernel_rfl) (by intro _ _ e; cases e) ?_)
          first | (refine A.takeM 4 rfl (by kernel_rfl) (by intro _ _ e; cases e) ?_) | (refine A.take 4 rfl (by kernel_rfl) (by intro _ _ e; cases e) ?_)
          first | (refine A.takeN 5 rfl (by kernel_rfl) (by intro _ _ e; cases e) ?_) | (refine A.takeY 5 rfl (by kernel_rfl) (by intro _ _ e; cases e) ?_)
          first | (refine A.takeN 6 rfl (by kernel_rfl) (by intro _ _ e; cases e) ?_) | (refine A.takeY 6 rfl (by kernel_rfl) (by intro _ _ e; cases e) ?_)
          first | (refine A.takeN 7 rfl (by kernel_rfl) (by intro _ _ e; cases e) ?_) | (refine A.takeY 7 rfl (by kernel_rfl) (by intro _ _ e; cases e) ?_)
          first | (refine A.takeN 8 rfl (by kernel_rfl) (by intro _ _ e; cases e) ?_) | (refine A.takeY 8 rfl (by kernel_rfl) (by intro _ _ e; cases e) ?_)
          first | (refine A.takeN 9 rfl (by kernel_rfl) (by intro _ _ e; cases e) ?_) | (refine A.takeY 9 rfl (by kernel_rfl) (by intro _ _ e; cases e) ?_)
          first | (refine A.takeN 10 rfl (by kernel_rfl) (by intro _ _ e; cases e) ?_) | (refine A.takeY 10 rfl (by kernel_rfl) (by intro _ _ e; cases e) ?_)
          first | (refine A.takeN 11 rfl (by kernel_rfl) (by intro _ _ e; cases e) ?_) | (refine A.takeY 11 rfl (by kernel_rfl) (by intro _ _ e; cases e) ?_)
          refine A.take 12 rfl (by kernel_rfl) (by intro _ _ e; cases e) ?_
          first | (refine A.takeM 13 rfl (by kernel_rfl) (by intro _ _ e; cases e) ?_) | (refine A.take 13 rfl (by kernel_rfl) (by intro _ _ e; cases e) ?_)
          first | (refine A.takeN 14 rfl (by kernel_rfl) (by intro _ _ e; cases e) ?_) | (refine A.takeY 14 rfl (by kernel_rfl) (by intro _ _ e; cases e) ?_)
          first | (refine A.takeN 15 rfl (by kernel_rfl) (by intro _ _ e; cases e) ?_) | (refine A.takeY 15 rfl (by kernel_rfl) (by intro _ _ e; cases e) ?_)
          first | (refine A.takeN 16 rfl (by kernel_rfl) (by intro _ _ e; cases e) ?_) | (refine A.takeY 16 rfl (by kernel_rfl) (by intro _ _ e; cases e) ?_)
          first | (refine A.takeN 17 rfl (by kernel_rfl) (by intro _ _ e; cases e) ?_) | (refine A.takeY 17 rfl (by kernel_rfl) (by intro _ _ e; cases e) ?_)
          first | (refine A.takeN 18 rfl (by kernel_rfl) (by intro _ _ e; cases e) ?_) | (refine A.takeY 18 rfl (by kernel_rfl) (by intro _ _ e; cases e) ?_)
          first | (refine A.takeN 19 rfl (by kernel_rfl) (by intro _ _ e; cases e) ?_) | (refine A.takeY 19 rfl (by kernel_rfl) (by intro _ _ e; cases e) ?_)
          first | (refine A.takeN 20 rfl (by kernel_rfl) (by intro _ _ e; cases e) ?_) | (refine A.takeY 20 rfl (by kernel_rfl) (by intro _ _ e; cases e) ?_)
          first | (refine A.takeN 21 rfl (by kernel_rfl) (by intro _ _ e; cases e) ?_) | (refine A.takeY 21 rfl (by kernel_rfl) (by intro _ _ e; cases e) ?_)
          first | (refine A.takeN 22 rfl (by kernel_rfl) (by intro _ _ e; cases e) ?_) | (refine A.takeY 22 rfl (by kernel_rfl) (by intro _ _ e; cases e) ?_)
          refine A.one 23 rfl (by kernel_rfl) ?_
          refine W.yes ?_
          refine W.yield1 (R := fun r h'' => r = .bool true ∧ Inv (pre.length + 1) h'') (fun c hcc => hyield (pre.length) ⟨ps[i], true, amt has ps[i]⟩ (hget 0 _ (by unfold stepsOf; rw [if_neg hc1, if_pos hc2]; rfl)) h' _ hq (Ext0.out (h₀ := h')) c (fun h'' q _ => hcc _ _ ⟨rfl, q⟩)) (fun r h5 hr => ?_)
          obtain ⟨rfl, hq5⟩ := hr
          refine A.hard (by rfl) ?_
          first | (refine A.takeN 24 rfl (by kernel_rfl) (by intro _ _ e; cases e) ?_) | (refine A.takeY 24 rfl (by kernel_rfl) (by intro _ _ e; cases e) ?_)
          refine A.take 25 rfl (by kernel_rfl) (by intro _ _ e; cases e) ?_
          refine Any.done (by kernel_rfl) ?_
          repeat (first | refine hS.seq ?_ | refine hS.regionW ?_ | refine W.pop ?_ | refine W.yes ?_ | refine W.no ?_ | refine W.box (fun _ _ => ?_) | refine W.alloc (fun _ _ => ?_) | refine W.store ?_ | refine W.bs (fun _ _ => ?_) | refine W.fn hS (fun _ _ => ?_) | refine WL.nil ?_ | refine R.condT hS ?_ | refine R.condF hS ?_ | refine hS.skip ?_ | refine hS.block ?_ | refine hS.inBlock ?_ | refine R.ret hS ?_ | refine R.fin hS ?_ | refine R.begin hS ?_ | refine R.endRound hS ?_ | refine R.retRound hS ?_ | refine R.retC hS ?_ | refine R.endRangeDone hS ?_ | refine R.endRangeRet hS ?_)
          refine hS.inLoop ?_
          refine ih (i + 1) _ _ (by omega) ⟨hlt, inferInstance, inferInstance, inferInstance, inferInstance, inferInstance, by rw [ei]; infer_instance, ?_⟩
          rw [hsn, List.length_append]
          have : (stepsOf has most x ps[i]).length = 0 + 1 := by unfold stepsOf; rw [if_neg hc1, if_pos hc2]; rfl
          rw [this]; exact hq5
        · have hst : (stepsOf has most x ps[i]).length = 0 := by unfold stepsOf; rw [if_neg hc1, if_neg hc2]; rfl
          have fin : Inv (stepsAt has most (ps.take (i + 1)) x).length h' := by rw [hsn, List.length_append, hst]; exact hq
          by_cases hc3 : ps[i].to = x
          · have b1 : IsC (decide ((⟨ps[i].to.t, ps[i].to.a, ps[i].to.b⟩ : Spot) = ⟨x.t, x.a, x.b⟩)) true := ⟨decide_eq_true hc3⟩
            have b2 : IsC (decide ((has ⟨⟨ps[i].frm.t, ps[i].frm.a, ps[i].frm.b⟩, ⟨ps[i].to.t, ps[i].to.a, ps[i].to.b⟩, ps[i].tie⟩).getD 0 > 0)) false := ⟨decide_eq_false fun h => hc2 ⟨hc3, h⟩⟩
            refine hS.regionA mixed [23] ?_
            refine A.take 0 rfl (by kernel_rfl) (by intro _ _ e; cases e) ?_
            refine A.take 1 rfl (by kernel_rfl) (by intro _ _ e; cases e) ?_
            refine A.take 2 rfl (by kernel_rfl) (by intro _ _ e; cases e) ?_
            first | (refine A.takeM 3 rfl (by kernel_rfl) (by intro _ _ e; cases e) ?_) | (refine A.take 3 rfl (by kernel_rfl) (by intro _ _ e; cases e) ?_)
            first | (refine A.takeM 4 rfl (by kernel_rfl) (by intro _ _ e; cases e) ?_) | (refine A.take 4 rfl (by kernel_rfl) (by intro _ _ e; cases e) ?_)
            first | (refine A.takeN 5 rfl (by kernel_rfl) (by intro _ _ e; cases e) ?_) | (refine A.takeY 5 rfl (by kernel_rfl) (by intro _ _ e; cases e) ?_)
            first | (refine A.takeN 6 rfl (by kernel_rfl) (by intro _ _ e; cases e) ?_) | (refine A.takeY 6 rfl (by kernel_rfl) (by intro _ _ e; cases e) ?_)
            first | (refine A.takeN 7 rfl (by kernel_rfl) (by intro _ _ e; cases e) ?_) | (refine A.takeY 7 rfl (by kernel_rfl) (by intro _ _ e; cases e) ?_)
            first | (refine A.takeN 8 rfl (by kernel_rfl) (by intro _ _ e; cases e) ?_) | (refine A.takeY 8 rfl (by kernel_rfl) (by intro _ _ e; cases e) ?_)
            first | (refine A.takeN 9 rfl (by kernel_rfl) (by intro _ _ e; cases e) ?_) | (refine A.takeY 9 rfl (by kernel_rfl) (by intro _ _ e; cases e) ?_)
            first | (refine A.takeN 10 rfl (by kernel_rfl) (by intro _ _ e; cases e) ?_) | (refine A.takeY 10 rfl (by kernel_rfl) (by intro _ _ e; cases e) ?_)
            first | (refine A.takeN 11 rfl (by kernel_rfl) (by intro _ _ e; cases e) ?_) | (refine A.takeY 11 rfl (by kernel_rfl) (by intro _ _ e; cases e) ?_)
            refine A.take 12 rfl (by kernel_rfl) (by intro _ _ e; cases e) ?_
            first | (refine A.takeM 13 rfl (by kernel_rfl) (by intro _ _ e; cases e) ?_) | (refine A.take 13 rfl (by kernel_rfl) (by intro _ _ e; cases e) ?_)
            first | (refine A.takeN 14 rfl (by kernel_rfl) (by intro _ _ e; cases e) ?_) | (refine A.takeY 14 rfl (by kernel_rfl) (by intro _ _ e; cases e) ?_)
            first | (refine A.takeN 15 rfl (by kernel_rfl) (by intro _ _ e; cases e) ?_) | (refine A.takeY 15 rfl (by kernel_rfl) (by intro _ _ e; cases e) ?_)
            first | (refine A.takeN 16 rfl (by kernel_rfl) (by intro _ _ e; cases e) ?_) | (refine A.takeY 16 rfl (by kernel_rfl) (by intro _ _ e; cases e) ?_)
            first | (refine A.takeN 17 rfl (by kernel_rfl) (by intro _ _ e; cases e) ?_) | (refine A.takeY 17 rfl (by kernel_rfl) (by intro _ _ e; cases e) ?_)
            first | (refine A.takeN 18 rfl (by kernel_rfl) (by intro _ _ e; cases e) ?_) | (refine A.takeY 18 rfl (by kernel_rfl) (by intro _ _ e; cases e) ?_)
            first | (refine A.takeN 19 rfl (by kernel_rfl) (by intro _ _ e; cases e) ?_) | (refine A.takeY 19 rfl (by kernel_rfl) (by intro _ _ e; cases e) ?_)
            first | (refine A.takeN 20 rfl (by kernel_rfl) (by intro _ _ e; cases e) ?_) | (refine A.takeY 20 rfl (by kernel_rfl) (by intro _ _ e; cases e) ?_)
            first | (refine A.takeN 21 rfl (by kernel_rfl) (by intro _ _ e; cases e) ?_) | (refine A.takeY 21 rfl (by kernel_rfl) (by intro _ _ e; cases e) ?_)
            first | (refine A.takeN 22 rfl (by kernel_rfl) (by intro _ _ e; cases e) ?_) | (refine A.takeY 22 rfl (by kernel_rfl) (by intro _ _ e; cases e) ?_)
            refine A.one 23 rfl (by kernel_rfl) ?_
            first | (refine W.no ?_) | (refine W.yes ?_; first | refine W.pop ?_ | refine W.fn hS (fun _ _ => ?_) | refine W.bs (fun _ _ => ?_) | refine W.box (fun _ _ => ?_) | refine W.alloc (fun _ _ => ?_) | refine W.store ?_)
            refine A.hard (by rfl) ?_
            first | (refine A.takeN 24 rfl (by kernel_rfl) (by intro _ _ e; cases e) ?_) | (refine A.takeY 24 rfl (by kernel_rfl) (by intro _ _ e; cases e) ?_)
            refine A.take 25 rfl (by kernel_rfl) (by intro _ _ e; cases e) ?_
            refine Any.done (by kernel_rfl) ?_
            repeat (first | refine hS.seq ?_ | refine hS.regionW ?_ | refine W.pop ?_ | refine W.yes ?_ | refine W.no ?_ | refine W.box (fun _ _ => ?_) | refine W.alloc (fun _ _ => ?_) | refine W.store ?_ | refine W.bs (fun _ _ => ?_) | refine W.fn hS (fun _ _ => ?_) | refine WL.nil ?_ | refine R.condT hS ?_ | refine R.condF hS ?_ | refine hS.skip ?_ | refine hS.block ?_ | refine hS.inBlock ?_ | refine R.ret hS ?_ | refine R.fin hS ?_ | refine R.begin hS ?_ | refine R.endRound hS ?_ | refine R.retRound hS ?_ | refine R.retC hS ?_ | refine R.endRangeDone hS ?_ | refine R.endRangeRet hS ?_)
            refine hS.inLoop ?_
            exact ih (i + 1) _ _ (by omega) ⟨hlt, inferInstance, inferInstance, inferInstance, inferInstance, inferInstance, by rw [ei]; infer_instance, hext _ _ _ fin (Ext0.out (h₀ := h'))⟩
          · have b1 : IsC (decide ((⟨ps[i].to.t, ps[i].to.a, ps[i].to.b⟩ : Spot) = ⟨x.t, x.a, x.b⟩)) false := ⟨decide_eq_false hc3⟩
            refine hS.regionA mixed [23] ?_
            refine A.take 0 rfl (by kernel_rfl) (by intro _ _ e; cases e) ?_
            refine A.take 1 rfl (by kernel_rfl) (by intro _ _ e; cases e) ?_
            refine A.take 2 rfl (by kernel_rfl) (by intro _ _ e; cases e) ?_
            first | (refine A.takeM 3 rfl (by kernel_rfl) (by intro _ _ e; cases e) ?_) | (refine A.take 3 rfl (by kernel_rfl) (by intro _ _ e; cases e) ?_)
            first | (refine A.takeM 4 rfl (by kernel_rfl) (by intro _ _ e; cases e) ?_) | (refine A.take 4 rfl (by kernel_rfl) (by intro _ _ e; cases e) ?_)
            first | (refine A.takeN 5 rfl (by kernel_rfl) (by intro _ _ e; cases e) ?_) | (refine A.takeY 5 rfl (by kernel_rfl) (by intro _ _ e; cases e) ?_)
            first | (refine A.takeN 6 rfl (by kernel_rfl) (by intro _ _ e; cases e) ?_) | (refine A.takeY 6 rfl (by kernel_rfl) (by intro _ _ e; cases e) ?_)
            first | (refine A.takeN 7 rfl (by kernel_rfl) (by intro _ _ e; cases e) ?_) | (refine A.takeY 7 rfl (by kernel_rfl) (by intro _ _ e; cases e) ?_)
            first | (refine A.takeN 8 rfl (by kernel_rfl) (by intro _ _ e; cases e) ?_) | (refine A.takeY 8 rfl (by kernel_rfl) (by intro _ _ e; cases e) ?_)
            first | (refine A.takeN 9 rfl (by kernel_rfl) (by intro _ _ e; cases e) ?_) | (refine A.takeY 9 rfl (by kernel_rfl) (by intro _ _ e; cases e) ?_)
            first | (refine A.takeN 10 rfl (by kernel_rfl) (by intro _ _ e; cases e) ?_) | (refine A.takeY 10 rfl (by kernel_rfl) (by intro _ _ e; cases e) ?_)
            first | (refine A.takeN 11 rfl (by kernel_rfl) (by intro _ _ e; cases e) ?_) | (refine A.takeY 11 rfl (by kernel_rfl) (by intro _ _ e; cases e) ?_)
            refine A.take 12 rfl (by kernel_rfl) (by intro _ _ e; cases e) ?_
            first | (refine A.takeM 13 rfl (by kernel_rfl) (by intro _ _ e; cases e) ?_) | (refine A.take 13 rfl (by kernel_rfl) (by intro _ _ e; cases e) ?_)
            first | (refine A.takeN 14 rfl (by kernel_rfl) (by intro _ _ e; cases e) ?_) | (refine A.takeY 14 rfl (by kernel_rfl) (by intro _ _ e; cases e) ?_)
            first | (refine A.takeN 15 rfl (by kernel_rfl) (by intro _ _ e; cases e) ?_) | (refine A.takeY 15 rfl (by kernel_rfl) (by intro _ _ e; cases e) ?_)
            first | (refine A.takeN 16 rfl (by kernel_rfl) (by intro _ _ e; cases e) ?_) | (refine A.takeY 16 rfl (by kernel_rfl) (by intro _ _ e; cases e) ?_)
            first | (refine A.takeN 17 rfl (by kernel_rfl) (by intro _ _ e; cases e) ?_) | (refine A.takeY 17 rfl (by kernel_rfl) (by intro _ _ e; cases e) ?_)
            first | (refine A.takeN 18 rfl (by kernel_rfl) (by intro _ _ e; cases e) ?_) | (refine A.takeY 18 rfl (by kernel_rfl) (by intro _ _ e; cases e) ?_)
            first | (refine A.takeN 19 rfl (by kernel_rfl) (by intro _ _ e; cases e) ?_) | (refine A.takeY 19 rfl (by kernel_rfl) (by intro _ _ e; cases e) ?_)
            first | (refine A.takeN 20 rfl (by kernel_rfl) (by intro _ _ e; cases e) ?_) | (refine A.takeY 20 rfl (by kernel_rfl) (by intro _ _ e; cases e) ?_)
            first | (refine A.takeN 21 rfl (by kernel_rfl) (by intro _ _ e; cases e) ?_) | (refine A.takeY 21 rfl (by kernel_rfl) (by intro _ _ e; cases e) ?_)
            first | (refine A.takeN 22 rfl (by kernel_rfl) (by intro _ _ e; cases e) ?_) | (refine A.takeY 22 rfl (by kernel_rfl) (by intro _ _ e; cases e) ?_)
            refine A.one 23 rfl (by kernel_rfl) ?_
            first | (refine W.no ?_) | (refine W.yes ?_; first | refine W.pop ?_ | refine W.fn hS (fun _ _ => ?_) | refine W.bs (fun _ _ => ?_) | refine W.box (fun _ _ => ?_) | refine W.alloc (fun _ _ => ?_) | refine W.store ?_)
            refine A.hard (by rfl) ?_
            first | (refine A.takeN 24 rfl (by kernel_rfl) (by intro _ _ e; cases e) ?_) | (refine A.takeY 24 rfl (by kernel_rfl) (by intro _ _ e; cases e) ?_)
            refine A.take 25 rfl (by kernel_rfl) (by intro _ _ e; cases e) ?_
            refine Any.done (by kernel_rfl) ?_
            repeat (first | refine hS.seq ?_ | refine hS.regionW ?_ | refine W.pop ?_ | refine W.yes ?_ | refine W.no ?_ | refine W.box (fun _ _ => ?_) | refine W.alloc (fun _ _ => ?_) | refine W.store ?_ | refine W.bs (fun _ _ => ?_) | refine W.fn hS (fun _ _ => ?_) | refine WL.nil ?_ | refine R.condT hS ?_ | refine R.condF hS ?_ | refine hS.skip ?_ | refine hS.block ?_ | refine hS.inBlock ?_ | refine R.ret hS ?_ | refine R.fin hS ?_ | refine R.begin hS ?_ | refine R.endRound hS ?_ | refine R.retRound hS ?_ | refine R.retC hS ?_ | refine R.endRangeDone hS ?_ | refine R.endRangeRet hS ?_)
            refine hS.inLoop ?_
            exact ih (i + 1) _ _ (by omega) ⟨hlt, inferInstance, inferInstance, inferInstance, inferInstance, inferInstance, by rw [ei]; infer_instance, hext _ _ _ fin (Ext0.out (h₀ := h'))⟩
      · have a1 : IsC (decide ((⟨ps[i].frm.t, ps[i].frm.a, ps[i].frm.b⟩ : Spot) = ⟨x.t, x.a, x.b⟩)) false := ⟨decide_eq_false hc0⟩
        repeat (first | refine hS.seq ?_ | refine hS.regionW ?_ | refine W.pop ?_ | refine W.yes ?_ | refine W.no ?_ | refine W.box (fun _ _ => ?_) | refine W.alloc (fun _ _ => ?_) | refine W.store ?_ | refine W.bs (fun _ _ => ?_) | refine W.fn hS (fun _ _ => ?_) | refine WL.nil ?_ | refine R.condT hS ?_ | refine R.condF hS ?_ | refine hS.skip ?_ | refine hS.block ?_ | refine hS.inBlock ?_ | refine R.ret hS ?_ | refine R.fin hS ?_ | refine R.begin hS ?_ | refine R.endRound hS ?_ | refine R.retRound hS ?_ | refine R.retC hS ?_ | refine R.endRangeDone hS ?_ | refine R.endRangeRet hS ?_)
        by_cases hc2 : ps[i].to = x ∧ amt has ps[i] > 0
        · have b1 : IsC (decide ((⟨ps[i].to.t, ps[i].to.a, ps[i].to.b⟩ : Spot) = ⟨x.t, x.a, x.b⟩)) true := ⟨decide_eq_true hc2.1⟩
          have b2 : IsC (decide ((has ⟨⟨ps[i].frm.t, ps[i].frm.a, ps[i].frm.b⟩, ⟨ps[i].to.t, ps[i].to.a, ps[i].to.b⟩, ps[i].tie⟩).getD 0 > 0)) true := ⟨decide_eq_true hc2.2⟩
          refine hS.regionA mixed [23] ?_
          refine A.take 0 rfl (by kernel_rfl) (by intro _ _ e; cases e) ?_
          refine A.take 1 rfl (by kernel_rfl) (by intro _ _ e; cases e) ?_
          refine A.take 2 rfl (by kernel_rfl) (by intro _ _ e; cases e) ?_
          first | (refine A.takeM 3 rfl (by kernel_rfl) (by intro _ _ e; cases e) ?_) | (refine A.take 3 rfl (by kernel_rfl) (by intro _ _ e; cases e) ?_)
          first | (refine A.takeM 4 rfl (by kernel_rfl) (by intro _ _ e; cases e) ?_) | (refine A.take 4 rfl (by kernel_rfl) (by intro _ _ e; cases e) ?_)
          first | (refine A.takeN 5 rfl (by kernel_rfl) (by intro _ _ e; cases e) ?_) | (refine A.takeY 5 rfl (by kernel_rfl) (by intro _ _ e; cases e) ?_)
          first | (refine A.takeN 6 rfl (by kernel_rfl) (by intro _ _ e; cases e) ?_) | (refine A.takeY 6 rfl (by kernel_rfl) (by intro _ _ e; cases e) ?_)
          first | (refine A.takeN 7 rfl (by kernel_rfl) (by intro _ _ e; cases e) ?_) | (refine A.takeY 7 rfl (by kernel_rfl) (by intro _ _ e; cases e) ?_)
          first | (refine A.takeN 8 rfl (by kernel_rfl) (by intro _ _ e; cases e) ?_) | (refine A.takeY 8 rfl (by kernel_rfl) (by intro _ _ e; cases e) ?_)
          first | (refine A.takeN 9 rfl (by kernel_rfl) (by intro _ _ e; cases e) ?_) | (refine A.takeY 9 rfl (by kernel_rfl) (by intro _ _ e; cases e) ?_)
          first | (refine A.takeN 10 rfl (by kernel_rfl) (by intro _ _ e; cases e) ?_) | (refine A.takeY 10 rfl (by kernel_rfl) (by intro _ _ e; cases e) ?_)
          first | (refine A.takeN 11 rfl (by kernel_rfl) (by intro _ _ e; cases e) ?_) | (refine A.takeY 11 rfl (by kernel_rfl) (by intro _ _ e; cases e) ?_)
          refine A.take 12 rfl (by kernel_rfl) (by intro _ _ e; cases e) ?_
          first | (refine A.takeM 13 rfl (by kernel_rfl) (by intro _ _ e; cases e) ?_) | (refine A.take 13 rfl (by kernel_rfl) (by intro _ _ e; cases e) ?_)
          first | (refine A.takeN 14 rfl (by kernel_rfl) (by intro _ _ e; cases e) ?_) | (refine A.takeY 14 rfl (by kernel_rfl) (by intro _ _ e; cases e) ?_)
          first | (refine A.takeN 15 rfl (by kernel_rfl) (by intro _ _ e; cases e) ?_) | (refine A.takeY 15 rfl (by kernel_rfl) (by intro _ _ e; cases e) ?_)
          first | (refine A.takeN 16 rfl (by kernel_rfl) (by intro _ _ e; cases e) ?_) | (refine A.takeY 16 rfl (by kernel_rfl) (by intro _ _ e; cases e) ?_)
          first | (refine A.takeN 17 rfl (by kernel_rfl) (by intro _ _ e; cases e) ?_) | (refine A.takeY 17 rfl (by kernel_rfl) (by intro _ _ e; cases e) ?_)
          first | (refine A.takeN 18 rfl (by kernel_rfl) (by intro _ _ e; cases e) ?_) | (refine A.takeY 18 rfl (by kernel_rfl) (by intro _ _ e; cases e) ?_)
          first | (refine A.takeN 19 rfl (by kernel_rfl) (by intro _ _ e; cases e) ?_) | (refine A.takeY 19 rfl (by kernel_rfl) (by intro _ _ e; cases e) ?_)
          first | (refine A.takeN 20 rfl (by kernel_rfl) (by intro _ _ e; cases e) ?_) | (refine A.takeY 20 rfl (by kernel_rfl) (by intro _ _ e; cases e) ?_)
          first | (refine A.takeN 21 rfl (by kernel_rfl) (by intro _ _ e; cases e) ?_) | (refine A.takeY 21 rfl (by kernel_rfl) (by intro _ _ e; cases e) ?_)
          first | (refine A.takeN 22 rfl (by kernel_rfl) (by intro _ _ e; cases e) ?_) | (refine A.takeY 22 rfl (by kernel_rfl) (by intro _ _ e; cases e) ?_)
          refine A.one 23 rfl (by kernel_rfl) ?_
          refine W.yes ?_
          refine W.yield1 (R := fun r h'' => r = .bool true ∧ Inv (pre.length + 1) h'') (fun c hcc => hyield (pre.length) ⟨ps[i], true, amt has ps[i]⟩ (hget 0 _ (by unfold stepsOf; rw [if_neg hc1, if_pos hc2]; rfl)) h' _ hq (Ext0.out (h₀ := h')) c (fun h'' q _ => hcc _ _ ⟨rfl, q⟩)) (fun r h5 hr => ?_)
          obtain ⟨rfl, hq5⟩ := hr
          refine A.hard (by rfl) ?_
          first | (refine A.takeN 24 rfl (by kernel_rfl) (by intro _ _ e; cases e) ?_) | (refine A.takeY 24 rfl (by kernel_rfl) (by intro _ _ e; cases e) ?_)
          refine A.take 25 rfl (by kernel_rfl) (by intro _ _ e; cases e) ?_
          refine Any.done (by kernel_rfl) ?_
          repeat (first | refine hS.seq ?_ | refine hS.regionW ?_ | refine W.pop ?_ | refine W.yes ?_ | refine W.no ?_ | refine W.box (fun _ _ => ?_) | refine W.alloc (fun _ _ => ?_) | refine W.store ?_ | refine W.bs (fun _ _ => ?_) | refine W.fn hS (fun _ _ => ?_) | refine WL.nil ?_ | refine R.condT hS ?_ | refine R.condF hS ?_ | refine hS.skip ?_ | refine hS.block ?_ | refine hS.inBlock ?_ | refine R.ret hS ?_ | refine R.fin hS ?_ | refine R.begin hS ?_ | refine R.endRound hS ?_ | refine R.retRound hS ?_ | refine R.retC hS ?_ | refine R.endRangeDone hS ?_ | refine R.endRangeRet hS ?_)
          refine hS.inLoop ?_
          refine ih (i + 1) _ _ (by omega) ⟨hlt, inferInstance, inferInstance, inferInstance, inferInstance, inferInstance, by rw [ei]; infer_instance, ?_⟩
          rw [hsn, List.length_append]
          have : (stepsOf has most x ps[i]).length = 0 + 1 := by unfold stepsOf; rw [if_neg hc1, if_pos hc2]; rfl
          rw [this]; exact hq5
        · have hst : (stepsOf has most x ps[i]).length = 0 := by unfold stepsOf; rw [if_neg hc1, if_neg hc2]; rfl
          have fin : Inv (stepsAt has most (ps.take (i + 1)) x).length h' := by rw [hsn, List.length_append, hst]; exact hq
          by_cases hc3 : ps[i].to = x
          · have b1 : IsC (decide ((⟨ps[i].to.t, ps[i].to.a, ps[i].to.b⟩ : Spot) = ⟨x.t, x.a, x.b⟩)) true := ⟨decide_eq_true hc3⟩
            have b2 : IsC (decide ((has ⟨⟨ps[i].frm.t, ps[i].frm.a, ps[i].frm.b⟩, ⟨ps[i].to.t, ps[i].to.a, ps[i].to.b⟩, ps[i].tie⟩).getD 0 > 0)) false := ⟨decide_eq_false fun h => hc2 ⟨hc3, h⟩⟩
            refine hS.regionA mixed [23] ?_
            refine A.take 0 rfl (by kernel_rfl) (by intro _ _ e; cases e) ?_
            refine A.take 1 rfl (by kernel_rfl) (by intro _ _ e; cases e) ?_
            refine A.take 2 rfl (by kernel_rfl) (by intro _ _ e; cases e) ?_
            first | (refine A.takeM 3 rfl (by kernel_rfl) (by intro _ _ e; cases e) ?_) | (refine A.take 3 rfl (by kernel_rfl) (by intro _ _ e; cases e) ?_)
            first | (refine A.takeM 4 rfl (by kernel_rfl) (by intro _ _ e; cases e) ?_) | (refine A.take 4 rfl (by kernel_rfl) (by intro _ _ e; cases e) ?_)
            first | (refine A.takeN 5 rfl (by kernel_rfl) (by intro _ _ e; cases e) ?_) | (refine A.takeY 5 rfl (by kernel_rfl) (by intro _ _ e; cases e) ?_)
            first | (refine A.takeN 6 rfl (by kernel_rfl) (by intro _ _ e; cases e) ?_) | (refine A.takeY 6 rfl (by kernel_rfl) (by intro _ _ e; cases e) ?_)
            first | (refine A.takeN 7 rfl (by kernel_rfl) (by intro _ _ e; cases e) ?_) | (refine A.takeY 7 rfl (by kernel_rfl) (by intro _ _ e; cases e) ?_)
            first | (refine A.takeN 8 rfl (by kernel_rfl) (by intro _ _ e; cases e) ?_) | (refine A.takeY 8 rfl (by kernel_rfl) (by intro _ _ e; cases e) ?_)
            first | (refine A.takeN 9 rfl (by kernel_rfl) (by intro _ _ e; cases e) ?_) | (refine A.takeY 9 rfl (by kernel_rfl) (by intro _ _ e; cases e) ?_)
            first | (refine A.takeN 10 rfl (by kernel_rfl) (by intro _ _ e; cases e) ?_) | (refine A.takeY 10 rfl (by kernel_rfl) (by intro _ _ e; cases e) ?_)
            first | (refine A.takeN 11 rfl (by kernel_rfl) (by intro _ _ e; cases e) ?_) | (refine A.takeY 11 rfl (by kernel_rfl) (by intro _ _ e; cases e) ?_)
            refine A.take 12 rfl (by kernel_rfl) (by intro _ _ e; cases e) ?_
            first | (refine A.takeM 13 rfl (by kernel_rfl) (by intro _ _ e; cases e) ?_) | (refine A.take 13 rfl (by kernel_rfl) (by intro _ _ e; cases e) ?_)
            first | (refine A.takeN 14 rfl (by kernel_rfl) (by intro _ _ e; cases e) ?_) | (refine A.takeY 14 rfl (by kernel_rfl) (by intro _ _ e; cases e) ?_)
            first | (refine A.takeN 15 rfl (by kernel_rfl) (by intro _ _ e; cases e) ?_) | (refine A.takeY 15 rfl (by kernel_rfl) (by intro _ _ e; cases e) ?_)
            first | (refine A.takeN 16 rfl (by kernel_rfl) (by intro _ _ e; cases e) ?_) | (refine A.takeY 16 rfl (by kernel_rfl) (by intro _ _ e; cases e) ?_)
            first | (refine A.takeN 17 rfl (by kernel_rfl) (by intro _ _ e; cases e) ?_) | (refine A.takeY 17 rfl (by kernel_rfl) (by intro _ _ e; cases e) ?_)
            first | (refine A.takeN 18 rfl (by kernel_rfl) (by intro _ _ e; cases e) ?_) | (refine A.takeY 18 rfl (by kernel_rfl) (by intro _ _ e; cases e) ?_)
            first | (refine A.takeN 19 rfl (by kernel_rfl) (by intro _ _ e; cases e) ?_) | (refine A.takeY 19 rfl (by kernel_rfl) (by intro _ _ e; cases e) ?_)
            first | (refine A.takeN 20 rfl (by kernel_rfl) (by intro _ _ e; cases e) ?_) | (refine A.takeY 20 rfl (by kernel_rfl) (by intro _ _ e; cases e) ?_)
            first | (refine A.takeN 21 rfl (by kernel_rfl) (by intro _ _ e; cases e) ?_) | (refine A.takeY 21 rfl (by kernel_rfl) (by intro _ _ e; cases e) ?_)
            first | (refine A.takeN 22 rfl (by kernel_rfl) (by intro _ _ e; cases e) ?_) | (refine A.takeY 22 rfl (by kernel_rfl) (by intro _ _ e; cases e) ?_)
            refine A.one 23 rfl (by kernel_rfl) ?_
            first | (refine W.no ?_) | (refine W.yes ?_; first | refine W.pop ?_ | refine W.fn hS (fun _ _ => ?_) | refine W.bs (fun _ _ => ?_) | refine W.box (fun _ _ => ?_) | refine W.alloc (fun _ _ => ?_) | refine W.store ?_)
            refine A.hard (by rfl) ?_
            first | (refine A.takeN 24 rfl (by kernel_rfl) (by intro _ _ e; cases e) ?_) | (refine A.takeY 24 rfl (by kernel_rfl) (by intro _ _ e; cases e) ?_)
            refine A.take 25 rfl (by kernel_rfl) (by intro _ _ e; cases e) ?_
            refine Any.done (by kernel_rfl) ?_
            repeat (first | refine hS.seq ?_ | refine hS.regionW ?_ | refine W.pop ?_ | refine W.yes ?_ | refine W.no ?_ | refine W.box (fun _ _ => ?_) | refine W.alloc (fun _ _ => ?_) | refine W.store ?_ | refine W.bs (fun _ _ => ?_) | refine W.fn hS (fun _ _ => ?_) | refine WL.nil ?_ | refine R.condT hS ?_ | refine R.condF hS ?_ | refine hS.skip ?_ | refine hS.block ?_ | refine hS.inBlock ?_ | refine R.ret hS ?_ | refine R.fin hS ?_ | refine R.begin hS ?_ | refine R.endRound hS ?_ | refine R.retRound hS ?_ | refine R.retC hS ?_ | refine R.endRangeDone hS ?_ | refine R.endRangeRet hS ?_)
            refine hS.inLoop ?_
            exact ih (i + 1) _ _ (by omega) ⟨hlt, inferInstance, inferInstance, inferInstance, inferInstance, inferInstance, by rw [ei]; infer_instance, hext _ _ _ fin (Ext0.out (h₀ := h'))⟩
          · have b1 : IsC (decide ((⟨ps[i].to.t, ps[i].to.a, ps[i].to.b⟩ : Spot) = ⟨x.t, x.a, x.b⟩)) false := ⟨decide_eq_false hc3⟩
            refine hS.regionA mixed [23] ?_
            refine A.take 0 rfl (by kernel_rfl) (by intro _ _ e; cases e) ?_
            refine A.take 1 rfl (by kernel_rfl) (by intro _ _ e; cases e) ?_
            refine A.take 2 rfl (by kernel_rfl) (by intro _ _ e; cases e) ?_
            first | (refine A.takeM 3 rfl (by kernel_rfl) (by intro _ _ e; cases e) ?_) | (refine A.take 3 rfl (by kernel_rfl) (by intro _ _ e; cases e) ?_)
            first | (refine A.takeM 4 rfl (by kernel_rfl) (by intro _ _ e; cases e) ?_) | (refine A.take 4 rfl (by kernel_rfl) (by intro _ _ e; cases e) ?_)
            first | (refine A.takeN 5 rfl (by kernel_rfl) (by intro _ _ e; cases e) ?_) | (refine A.takeY 5 rfl (by kernel_rfl) (by intro _ _ e; cases e) ?_)
            first | (refine A.takeN 6 rfl (by kernel_rfl) (by intro _ _ e; cases e) ?_) | (refine A.takeY 6 rfl (by kernel_rfl) (by intro _ _ e; cases e) ?_)
            first | (refine A.takeN 7 rfl (by kernel_rfl) (by intro _ _ e; cases e) ?_) | (refine A.takeY 7 rfl (by kernel_rfl) (by intro _ _ e; cases e) ?_)
            first | (refine A.takeN 8 rfl (by kernel_rfl) (by intro _ _ e; cases e) ?_) | (refine A.takeY 8 rfl (by kernel_rfl) (by intro _ _ e; cases e) ?_)
            first | (refine A.takeN 9 rfl (by kernel_rfl) (by intro _ _ e; cases e) ?_) | (refine A.takeY 9 rfl (by kernel_rfl) (by intro _ _ e; cases e) ?_)
            first | (refine A.takeN 10 rfl (by kernel_rfl) (by intro _ _ e; cases e) ?_) | (refine A.takeY 10 rfl (by kernel_rfl) (by intro _ _ e; cases e) ?_)
            first | (refine A.takeN 11 rfl (by kernel_rfl) (by intro _ _ e; cases e) ?_) | (refine A.takeY 11 rfl (by kernel_rfl) (by intro _ _ e; cases e) ?_)
            refine A.take 12 rfl (by kernel_rfl) (by intro _ _ e; cases e) ?_
            first | (refine A.takeM 13 rfl (by kernel_rfl) (by intro _ _ e; cases e) ?_) | (refine A.take 13 rfl (by kernel_rfl) (by intro _ _ e; cases e) ?_)
            first | (refine A.takeN 14 rfl (by kernel_rfl) (by intro _ _ e; cases e) ?_) | (refine A.takeY 14 rfl (by kernel_rfl) (by intro _ _ e; cases e) ?_)
            first | (refine A.takeN 15 rfl (by kernel_rfl) (by intro _ _ e; cases e) ?_) | (refine A.takeY 15 rfl (by kernel_rfl) (by intro _ _ e; cases e) ?_)
            first | (refine A.takeN 16 rfl (by kernel_rfl) (by intro _ _ e; cases e) ?_) | (refine A.takeY 16 rfl (by kernel_rfl) (by intro _ _ e; cases e) ?_)
            first | (refine A.takeN 17 rfl (by kernel_rfl) (by intro _ _ e; cases e) ?_) | (refine A.takeY 17 rfl (by kernel_rfl) (by intro _ _ e; cases e) ?_)
            first | (refine A.takeN 18 rfl (by kernel_rfl) (by intro _ _ e; cases e) ?_) | (refine A.takeY 18 rfl (by kernel_rfl) (by intro _ _ e; cases e) ?_)
            first | (refine A.takeN 19 rfl (by kernel_rfl) (by intro _ _ e; cases e) ?_) | (refine A.takeY 19 rfl (by kernel_rfl) (by intro _ _ e; cases e) ?_)
            first | (refine A.takeN 20 rfl (by kernel_rfl) (by intro _ _ e; cases e) ?_) | (refine A.takeY 20 rfl (by kernel_rfl) (by intro _ _ e; cases e) ?_)
            first | (refine A.takeN 21 rfl (by kernel_rfl) (by intro _ _ e; cases e) ?_) | (refine A.takeY 21 rfl (by kernel_rfl) (by intro _ _ e; cases e) ?_)
            first | (refine A.takeN 22 rfl (by kernel_rfl) (by intro _ _ e; cases e) ?_) | (refine A.takeY 22 rfl (by kernel_rfl) (by intro _ _ e; cases e) ?_)
            refine A.one 23 rfl (by kernel_rfl) ?_
            first | (refine W.no ?_) | (refine W.yes ?_; first | refine W.pop ?_ | refine W.fn hS (fun _ _ => ?_) | refine W.bs (fun _ _ => ?_) | refine W.box (fun _ _ => ?_) | refine W.alloc (fun _ _ => ?_) | refine W.store ?_)
            refine A.hard (by rfl) ?_
            first | (refine A.takeN 24 rfl (by kernel_rfl) (by intro _ _ e; cases e) ?_) | (refine A.takeY 24 rfl (by kernel_rfl) (by intro _ _ e; cases e) ?_)
            refine A.take 25 rfl (by kernel_rfl) (by intro _ _ e; cases e) ?_
            refine Any.done (by kernel_rfl) ?_
            repeat (first | refine hS.seq ?_ | refine hS.regionW ?_ | refine W.pop ?_ | refine W.yes ?_ | refine W.no ?_ | refine W.box (fun _ _ => ?_) | refine W.alloc (fun _ _ => ?_) | refine W.store ?_ | refine W.bs (fun _ _ => ?_) | refine W.fn hS (fun _ _ => ?_) | refine WL.nil ?_ | refine R.condT hS ?_ | refine R.condF hS ?_ | refine hS.skip ?_ | refine hS.block ?_ | refine hS.inBlock ?_ | refine R.ret hS ?_ | refine R.fin hS ?_ | refine R.begin hS ?_ | refine R.endRound hS ?_ | refine R.retRound hS ?_ | refine R.retC hS ?_ | refine R.endRangeDone hS ?_ | refine R.endRangeRet hS ?_)
            refine hS.inLoop ?_
            exact ih (i + 1) _ _ (by omega) ⟨hlt, inferInstance, inferInstance, inferInstance, inferInstance, inferInstance, by rw [ei]; infer_instance, hext _ _ _ fin (Ext0.out (h₀ := h'))⟩
  · have t1 : IsC (decide ((i : Int) < (ps.length : Int))) false := ⟨by simp; omega⟩
    have e : i = ps.length := by omega
    subst e
    rw [List.take_length] at hq
    repeat (first | refine hS.seq ?_ | refine hS.regionW ?_ | refine W.pop ?_ | refine W.yes ?_ | refine W.no ?_ | refine W.box (fun _ _ => ?_) | refine W.alloc (fun _ _ => ?_) | refine W.store ?_ | refine W.bs (fun _ _ => ?_) | refine W.fn hS (fun _ _ => ?_) | refine WL.nil ?_ | refine R.condT hS ?_ | refine R.condF hS ?_ | refine hS.skip ?_ | refine hS.block ?_ | refine hS.inBlock ?_ | refine R.ret hS ?_ | refine R.fin hS ?_ | refine R.begin hS ?_ | refine R.endRound hS ?_ | refine R.retRound hS ?_ | refine R.retC hS ?_ | refine R.endRangeDone hS ?_ | refine R.endRangeRet hS ?_)
    refine hS.exit rfl ?_
    repeat (first | refine hS.seq ?_ | refine hS.regionW ?_ | refine W.pop ?_ | refine W.yes ?_ | refine W.no ?_ | refine W.box (fun _ _ => ?_) | refine W.alloc (fun _ _ => ?_) | refine W.store ?_ | refine W.bs (fun _ _ => ?_) | refine W.fn hS (fun _ _ => ?_) | refine WL.nil ?_ | refine R.condT hS ?_ | refine R.condF hS ?_ | refine hS.skip ?_ | refine hS.block ?_ | refine hS.inBlock ?_ | refine R.ret hS ?_ | refine R.fin hS ?_ | refine R.begin hS ?_ | refine R.endRound hS ?_ | refine R.retRound hS ?_ | refine R.retC hS ?_ | refine R.endRangeDone hS ?_ | refine R.endRangeRet hS ?_)
    exact hdone _ hq
end Go.Proofs.YtankmjkogcbnfaaDoor
/-
  fix.seek: the goroutine that tells the steps of the search on a channel.
-/
namespace Go.Proofs.YtankmjkogcbnfaaDoor
open Go Go.SL Go.Conc
def Spot.c (s : Spot) : List Value := [.int .i64 s.t, .bool s.a, .bool s.b]
instance elSp {l : List Spot} {i : Nat} {x : Spot} [q : IxC l i x] : ElC (l.map Spot.c) i [.int .i64 x.t, .bool x.a, .bool x.b] := ⟨by simp [q.out, Spot.c]⟩
instance elSp0 {l : List Spot} {x : Spot} : ElC ((x :: l).map Spot.c) 0 [.int .i64 x.t, .bool x.a, .bool x.b] := ⟨by simp [Spot.c]⟩
def seenF (seen : List Spot) : Spot → Option Bool := fun k => if k ∈ seen then some true else none
theorem seenF_cons {seen : List Spot} {t : Spot} : updF (seenF seen) t true = seenF (t :: seen) := by
  funext k; simp only [updF, seenF, List.mem_cons]
  by_cases e : k = t <;> simp [e]
theorem sgl_sp (s : Spot) : Sgl [Spot.c s].flatten := by
  unfold Sgl; intro v hv; simp [Spot.c] at hv; rcases hv with rfl | rfl | rfl <;> rfl
/-- What seek's variables hold. -/
structure SkI (c : Nat) (h0 h : LH) (q3 q4 q5 rs : Nat) (wv : Value) (seen work : List Spot) : Prop where
  ext : Ext (h0.wgh h.gh) h
  g3 : HG h q3 (.cells (List.toArray [.chan (some c)]) 327 (0, 0))
  g4 : HG h q4 (.cells (List.toArray [.map (some rs)]) 328 (0, 0))
  g5 : HG h q5 (.cells (List.toArray [wv]) 329 (0, 0))
  o5 : Own h q5
  gs : ∃ es cl, HG h rs (.map es cl) ∧ MapI spotK boolV es cl (seenF seen)
  os : Own h rs
  w : SlW h 3 wv (work.map Spot.c)
  nb : blkOf wv ≠ some q3 ∧ blkOf wv ≠ some q4 ∧ blkOf wv ≠ some q5
  ne : q3 ≠ q5 ∧ q4 ≠ q5
  fr : h0.get q3 = none ∧ h0.get q4 = none ∧ h0.get q5 = none ∧ h0.get rs = none ∧ NewB h0 wv
theorem SkI.ext' {c : Nat} {h0 h h' : LH} {q3 q4 q5 rs : Nat} {wv : Value} {seen work : List Spot} (k : SkI c h0 h q3 q4 q5 rs wv seen work) (x : Ext h h') : SkI c h0 h' q3 q4 q5 rs wv seen work := by
  obtain ⟨es, cl, g1, g2⟩ := k.gs
  exact ⟨by rw [x.gh]; exact k.ext.trans x, k.g3.ext x, k.g4.ext x, k.g5.ext x, k.o5.ext x, ⟨es, cl, g1.ext x, g2⟩, k.os.ext x, k.w.ext x, k.nb, k.ne, k.fr⟩
theorem SkI.nrs {c : Nat} {h0 h : LH} {q3 q4 q5 rs : Nat} {wv : Value} {seen work : List Spot} (k : SkI c h0 h q3 q4 q5 rs wv seen work) : q3 ≠ rs ∧ q4 ≠ rs ∧ q5 ≠ rs ∧ blkOf wv ≠ some rs := by
  obtain ⟨es, cl, g1, g2⟩ := k.gs
  have h3 := k.g3
  have h4 := k.g4
  have h5 := k.g5
  refine ⟨?_, ?_, ?_, slw_map k.w g1⟩
  · rintro rfl; simp only [HG] at g1 h3; rw [h3] at g1; cases g1
  · rintro rfl; simp only [HG] at g1 h4; rw [h4] at g1; cases g1
  · rintro rfl; simp only [HG] at g1 h5; rw [h5] at g1; cases g1
/-- The state of seek within the range of one spot's steps. -/
structure InI (c : Nat) (h0 h : LH) (q3 q4 q5 rs : Nat) (cl : Deferred) (ds : List Deferred) (lp bf bs : Nat) (lo : Obj) (bfc bsc : Obj) (n : Nat) (seen work : List Spot) (gh : List Value) (ps : List Pipe) (x : Spot) : Prop where
  ex : ∃ wv, SkI c h0 h q3 q4 q5 rs wv seen (x :: work) ∧ blkOf wv ≠ some lp ∧ blkOf wv ≠ some bf ∧ blkOf wv ≠ some bs
  gl : HG h lp lo
  ol : Own h lp
  gf : HG h bf bfc
  gb : HG h bs bsc
  mks : Marks h0 h [cl] ds
  gh : h.gh = gh
  cnt : unseen ps seen + work.length ≤ n
theorem InI.ext' {c : Nat} {h0 h h' : LH} {q3 q4 q5 rs : Nat} {cl : Deferred} {ds : List Deferred} {lp bf bs : Nat} {lo bfc bsc : Obj} {n : Nat} {seen work : List Spot} {gh : List Value} {ps : List Pipe} {x : Spot} (k : InI c h0 h q3 q4 q5 rs cl ds lp bf bs lo bfc bsc n seen work gh ps x) (e : Ext h h') : InI c h0 h' q3 q4 q5 rs cl ds lp bf bs lo bfc bsc n seen work gh ps x := by
  obtain ⟨wv, k1, k2⟩ := k.ex
  exact ⟨⟨wv, k1.ext' e, k2⟩, k.gl.ext e, k.ol.ext e, k.gf.ext e, k.gb.ext e, k.mks.ext e, e.gh.trans k.gh, k.cnt⟩
theorem kp_frw {h0 h1 h h' : LH} {s : Value} [p : KpC h0 h1 h] (f : FrW h h' s) (hd : ∀ b, blkOf s = some b → h0.get b ≠ none) : KpC h0 h1 h' :=
  ⟨fun b o hb hy => f.get b o (p.out.get b o hb hy) (fun e => hd b e hb), fun b hb hy => f.own b (p.out.own b hb hy)⟩
theorem kp_wgh {h0 h1 h : LH} {vs : List Value} (p : KpC h0 h1 h) : KpC h0 h1 (h.wgh vs) := ⟨p.out.get, p.out.own⟩
theorem frw_ext0 {h0 h h' : LH} {s : Value} (f : FrW h h' s) (hn : NewB h0 s) (x : Ext (h0.wgh h.gh) h) : Ext (h0.wgh h'.gh) h' := by
  rw [f.gh]; exact f.ext hn x
theorem SkI.updl {c : Nat} {h0 h : LH} {q3 q4 q5 rs : Nat} {wv : Value} {seen work : List Spot} (k : SkI c h0 h q3 q4 q5 rs wv seen work) {lp : Nat} {o : Obj} (n3 : q3 ≠ lp) (n4 : q4 ≠ lp) (n5 : q5 ≠ lp) (ns : rs ≠ lp) (nw : blkOf wv ≠ some lp) (l0 : h0.get lp = none) : SkI c h0 (h.upd lp o) q3 q4 q5 rs wv seen work := by
  obtain ⟨es, cl, g1, g2⟩ := k.gs
  exact ⟨Ext.upd' (h₀ := h0.wgh h.gh) k.ext l0, k.g3.ne n3, k.g4.ne n4, k.g5.ne n5, k.o5.miss, ⟨es, cl, g1.ne ns, g2⟩, k.os.miss, k.w.ne nw, k.nb, k.ne, k.fr⟩
theorem SkI.wghI {c : Nat} {h0 h : LH} {q3 q4 q5 rs : Nat} {wv : Value} {seen work : List Spot} (k : SkI c h0 h q3 q4 q5 rs wv seen work) {vs : List Value} : SkI c h0 (h.wgh vs) q3 q4 q5 rs wv seen work :=
  ⟨ext_wgh k.ext, k.g3, k.g4, k.g5, k.o5, k.gs, k.os, k.w, k.nb, k.ne, k.fr⟩
theorem Kept.updl {h0 h1 h : LH} {lp : Nat} {o : Obj} (k : Kept h0 h1 h) (hd : h0.get lp ≠ none) : Kept h0 h1 (h.upd lp o) := by
  have p : KpC h0 h1 h := ⟨k⟩
  have d : DomC h0 lp := ⟨hd⟩
  exact KpC.out
theorem Kept.wghI {h0 h1 h : LH} {vs : List Value} (k : Kept h0 h1 h) : Kept h0 h1 (h.wgh vs) := ⟨k.get, k.own⟩
theorem at_heap {S : LH → Goroutine → Prop} {h : LH} {g : Goroutine} (F : LH → Prop) (x : F h) (k : ∀ h, F h → S h g) : S h g := k h x
theorem marks_frw {h0 h h' : LH} {rest ds : List Deferred} {s : Value} {sz : Nat} {xs : List (List Value)} (m : Marks h0 h rest ds) (f : FrW h h' s) (w : SlW h sz s xs) : Marks h0 h' rest ds :=
  m.mono (fun r hr => f.get _ _ hr (fun e => by
    obtain ⟨_, ⟨rfl, _⟩ | ⟨b, off, cap, cs, ee, rfl, _, _, h4, _⟩⟩ := w
    · simp [blkOf] at e
    · simp only [blkOf, Option.some.injEq] at e
      subst e
      simp only [HG] at h4 hr
      rw [hr] at h4; cases h4)) (fun r hr => f.own _ hr)
theorem gh_upd {h : LH} {b : Nat} {o : Obj} : (h.upd b o).gh = h.gh := rfl
theorem nd_of {h : LH} {b : Nat} {o : Obj} (g : HG h b o) [n : NdC o] : ¬ HG h b (.deferred (some [])) := fun e => n.out (Option.some.inj (g.symm.trans e))
theorem ext_self' {h0 h : LH} {g : List Value} (x : Ext (h0.wgh g) h) : Ext (h0.wgh h.gh) h := by
  have := x.gh; rw [this]; exact x
theorem ext_self {h0 h : LH} (x : Ext h0 h) : Ext (h0.wgh h.gh) h := by rw [x.gh]; exact x
theorem gh_of {h0 h : LH} [x : Ext0 h0 h] : h.gh = h0.gh := x.out.gh
theorem fresh_of' {h0 h : LH} {g : List Value} {b : Nat} (hn : h.get b = none) (x : Ext (h0.wgh g) h) : h0.get b = none := fresh_of (h₀ := h0.wgh g) hn x
theorem ne_of_none {h : LH} {b c : Nat} {o : Obj} (hg : HG h b o) (hn : h.get c = none) : b ≠ c := fun e => by subst e; simp only [HG] at hg; rw [hg] at hn; cases hn
theorem sw_of {h h' : LH} {s : Value} {sz : Nat} {xs : List (List Value)} (_ : FrW h h' s) [w : SlwC h sz s xs] : SlwC h sz s xs := w
theorem mk_of {h0 h h' : LH} {s : Value} {rest ds : List Deferred} (_ : FrW h h' s) [m : MkC h0 h rest ds] : Marks h0 h rest ds := m.out
theorem ext_drop {h0 h : LH} {g : List Value} (x : Ext (h0.wgh g) h) : Ext (h0.wgh g) h := x
theorem new_drop {h0 h1 : LH} {g : List Value} {s s' : Value} (hb : blkOf s' = blkOf s ∨ ∃ q, blkOf s' = some q ∧ h1.get q = none) (n : NewB h0 s) (x : Ext (h0.wgh g) h1) : NewB h0 s' := new_of (h0 := h0.wgh g) hb n x
attribute [local irreducible] putE ofL Look Nth Ev HG Own SubL Wr Sgl EvL LH.upd WL OpS Any Con PopW Pop
theorem seek_sends {Sf : List Value → LH → Goroutine → Prop} {c : Nat} (hR : SendReg Tryd.prog c Sf) {ps : List Pipe} {has most : Pipe → Option Int} {p rh rm N : Nat} {sl : Value} {h0 : LH}
    (hp : HG h0 p (.cells (List.toArray [sl, .map (some rh), .map (some rm)]) 211 (0, 0))) (hsl : SlE h0 7 sl (ps.map Pipe.c)) (hh : ∃ es cl, HG h0 rh (.map es cl) ∧ MapI pipeK intK es cl has) (hm : ∃ es cl, HG h0 rm (.map es cl) ∧ MapI pipeK intK es cl most)
    (g0 : HG h0 0 (.cells (List.toArray [.int .i64 (-1), .bool false, .bool false]) 206 (0, 0))) (hn : ps.length ≤ 4611686018427387904) (hnw : ∀ q ∈ ps, NoW (amt most q - amt has q)) (hN : N ≤ 1000000) (hu : unseen ps [srcS] + 1 ≤ N) (hgh : h0.gh = (bfs (stepsAt has most ps) N [srcS] [srcS]).map stepV) :
    Fam Sf h0 (G (Frame.enter Tryd.prog 180 (List.toArray [.pointer (some ⟨p, 0, none⟩), .chan (some c)]) .deferred) [childFr Tryd.prog []]) := by
  have hS : Regime Tryd.prog false (Fam Sf) := fam_reg hR.own
  rw [enter_eq Tryd.func180 rfl (by show 2 ≤ _; decide), Tryd.ntmps180]
  have z0 : HgAt h0 0 _ := ⟨g0⟩
  repeat (first | refine hS.seq ?_ | refine hS.regionW ?_ | refine W.pop ?_ | refine W.yes ?_ | refine W.no ?_ | refine W.box (fun _ _ => ?_) | refine W.alloc (fun _ _ => ?_) | refine W.store ?_ | refine W.bs (fun _ _ => ?_) | refine W.fn hS (fun _ _ => ?_) | refine WL.nil ?_ | refine R.condT hS ?_ | refine R.condF hS ?_ | refine hS.skip ?_ | refine hS.block ?_ | refine hS.inBlock ?_ | refine R.ret hS ?_ | refine R.fin hS ?_ | refine R.begin hS ?_ | refine R.endRound hS ?_ | refine R.retRound hS ?_ | refine R.retC hS ?_ | refine R.endRangeDone hS ?_ | refine R.endRangeRet hS ?_)
  rename_i q3 f3
  refine W.deferB rfl (fun cst => ?_)
  repeat (first | refine hS.seq ?_ | refine hS.regionW ?_ | refine W.pop ?_ | refine W.yes ?_ | refine W.no ?_ | refine W.box (fun _ _ => ?_) | refine W.alloc (fun _ _ => ?_) | refine W.store ?_ | refine W.bs (fun _ _ => ?_) | refine W.fn hS (fun _ _ => ?_) | refine WL.nil ?_ | refine R.condT hS ?_ | refine R.condF hS ?_ | refine hS.skip ?_ | refine hS.block ?_ | refine hS.inBlock ?_ | refine R.ret hS ?_ | refine R.fin hS ?_ | refine R.begin hS ?_ | refine R.endRound hS ?_ | refine R.retRound hS ?_ | refine R.retC hS ?_ | refine R.endRangeDone hS ?_ | refine R.endRangeRet hS ?_)
  refine W.makeMap (fun rs hrs => ?_)
  repeat (first | refine hS.seq ?_ | refine hS.regionW ?_ | refine W.pop ?_ | refine W.yes ?_ | refine W.no ?_ | refine W.box (fun _ _ => ?_) | refine W.alloc (fun _ _ => ?_) | refine W.store ?_ | refine W.bs (fun _ _ => ?_) | refine W.fn hS (fun _ _ => ?_) | refine WL.nil ?_ | refine R.condT hS ?_ | refine R.condF hS ?_ | refine hS.skip ?_ | refine hS.block ?_ | refine hS.inBlock ?_ | refine R.ret hS ?_ | refine R.fin hS ?_ | refine R.begin hS ?_ | refine R.endRound hS ?_ | refine R.retRound hS ?_ | refine R.retC hS ?_ | refine R.endRangeDone hS ?_ | refine R.endRangeRet hS ?_)
  refine W.mapIns spotK boolV (fun es1 c1 m1 => ?_)
  repeat (first | refine hS.seq ?_ | refine hS.regionW ?_ | refine W.pop ?_ | refine W.yes ?_ | refine W.no ?_ | refine W.box (fun _ _ => ?_) | refine W.alloc (fun _ _ => ?_) | refine W.store ?_ | refine W.bs (fun _ _ => ?_) | refine W.fn hS (fun _ _ => ?_) | refine WL.nil ?_ | refine R.condT hS ?_ | refine R.condF hS ?_ | refine hS.skip ?_ | refine hS.block ?_ | refine hS.inBlock ?_ | refine R.ret hS ?_ | refine R.fin hS ?_ | refine R.begin hS ?_ | refine R.endRound hS ?_ | refine R.retRound hS ?_ | refine R.retC hS ?_ | refine R.endRangeDone hS ?_ | refine R.endRangeRet hS ?_)
  rename_i q4 f4 qb fb q5 f5
  refine hS.loop ?_
  have m1' : updF (fun _ => none) (⟨-1, false, false⟩ : Spot) true = seenF [srcS] := by
    funext k; simp only [updF, seenF, List.mem_singleton, srcS]
  have a3 : Fresh0 h0 q3 := inferInstance
  have a4 : Fresh0 h0 q4 := inferInstance
  have a5 : Fresh0 h0 q5 := inferInstance
  have a6 : Fresh0 h0 rs := inferInstance
  have ab : Fresh0 h0 qb := inferInstance
  have n35 : NeB q3 q5 := inferInstance
  have n45 : NeB q4 q5 := inferInstance
  have nb3 : NeB q3 qb := inferInstance
  have nb4 : NeB q4 qb := inferInstance
  have nb5 : NeB qb q5 := inferInstance
  refine loop_ind2 (fun (a : Nat × List Spot × List Spot) => a.1) (fun a E ds h' => LookC E 0 (.pointer (some ⟨p, 0, none⟩)) ∧ LookC E 3 (.pointer (some ⟨q3, 0, none⟩)) ∧ LookC E 4 (.pointer (some ⟨q4, 0, none⟩)) ∧ ∃ q5 wv, LookC E 5 (.pointer (some ⟨q5, 0, none⟩)) ∧ SkI c h0 h' q3 q4 q5 rs wv a.2.1 a.2.2 ∧ Marks h0 h' [{ target := .builtin .close (List.toArray [327]) 0 cst, args := (List.toArray [.chan (some c)]) }] ds ∧
    h'.gh = (bfs (stepsAt has most ps) a.1 a.2.1 a.2.2).map stepV ∧ unseen ps a.2.1 + a.2.2.length ≤ a.1 ∧ a.1 ≤ N) ?_ (N, [srcS], [srcS]) _ _ _
    ⟨inferInstance, inferInstance, inferInstance, q5, .slice (some ⟨qb, 0, none⟩) 1 1, inferInstance, ?_, Marks.nil, ?_, hu, Nat.le_refl _⟩
  rotate_left
  · refine ⟨ext_self Ext0.out, HGC.out, HGC.out, HGC.out, OwnC.out, ⟨es1, c1, HGC.out, by rw [← m1']; exact m1.out⟩, OwnC.out, ⟨by simp [Spot.c], .inr ⟨qb, 0, 1, [.int .i64 (-1), .bool false, .bool false], 206, rfl, by simp, OwnC.out, HGC.out, by simp, by simp [Spot.c, srcS]⟩⟩, ⟨?_, ?_, ?_⟩, ⟨n35.out, n45.out⟩, a3.out, a4.out, a5.out, a6.out, ?_⟩
    · simp only [blkOf, Option.some.injEq, ne_eq]; exact nb3.out.symm
    · simp only [blkOf, Option.some.injEq, ne_eq]; exact nb4.out.symm
    · simp only [blkOf, Option.some.injEq, ne_eq]; exact nb5.out
    · intro b hb; simp only [blkOf, Option.some.injEq] at hb; subst hb; exact ab.out
  · exact (gh_of (h0 := h0)).trans hgh
  clear a3 a4 a5 a6 ab n35 n45 nb3 nb4 nb5 m1' m1 f3 f4 f5 fb hrs hu
  rintro ⟨n, seen, work⟩ E ds h' ⟨l0, l3, l4, q5, wv, l5, ki, hmk, hg, hcnt, hnN⟩ ih
  dsimp only at ki hg hcnt hnN ih
  have i3 : HGC h' q3 _ := ⟨ki.g3⟩
  have i4 : HGC h' q4 _ := ⟨ki.g4⟩
  have i5 : HGC h' q5 _ := ⟨ki.g5⟩
  have io5 : OwnC h' q5 := ⟨ki.o5⟩
  have iw : SlwC h' 3 wv _ := ⟨ki.w⟩
  have sgw := slw_single ki.w
  cases work with
  | nil =>
    have t1 : IsC (decide (((([] : List Spot).length : Nat) : Int) > 0)) false := ⟨rfl⟩
    repeat (first | refine hS.seq ?_ | refine hS.regionW ?_ | refine W.pop ?_ | refine W.yes ?_ | refine W.no ?_ | refine W.box (fun _ _ => ?_) | refine W.alloc (fun _ _ => ?_) | refine W.store ?_ | refine W.bs (fun _ _ => ?_) | refine W.fn hS (fun _ _ => ?_) | refine WL.nil ?_ | refine R.condT hS ?_ | refine R.condF hS ?_ | refine hS.skip ?_ | refine hS.block ?_ | refine hS.inBlock ?_ | refine R.ret hS ?_ | refine R.fin hS ?_ | refine R.begin hS ?_ | refine R.endRound hS ?_ | refine R.retRound hS ?_ | refine R.retC hS ?_ | refine R.endRangeDone hS ?_ | refine R.endRangeRet hS ?_)
    refine hS.exit rfl ?_
    repeat (first | refine hS.seq ?_ | refine hS.regionW ?_ | refine W.pop ?_ | refine W.yes ?_ | refine W.no ?_ | refine W.box (fun _ _ => ?_) | refine W.alloc (fun _ _ => ?_) | refine W.store ?_ | refine W.bs (fun _ _ => ?_) | refine W.fn hS (fun _ _ => ?_) | refine WL.nil ?_ | refine R.condT hS ?_ | refine R.condF hS ?_ | refine hS.skip ?_ | refine hS.block ?_ | refine hS.inBlock ?_ | refine R.ret hS ?_ | refine R.fin hS ?_ | refine R.begin hS ?_ | refine R.endRound hS ?_ | refine R.retRound hS ?_ | refine R.retC hS ?_ | refine R.endRangeDone hS ?_ | refine R.endRangeRet hS ?_)
    have mk1 : MkC h0 h' _ ds := ⟨hmk⟩
    refine hS.finM rfl (fun h2 tk => ?_)
    exact R.closeLeave hR (by rw [tk.gh, hg, bfs_done]; rfl) Tryd.func180 rfl rfl
  | cons x work =>
    obtain ⟨m, rfl⟩ : ∃ m, n = m + 1 := ⟨n - 1, by simp at hcnt; omega⟩
    have t1 : IsC (decide ((((x :: work).length : Nat) : Int) > 0)) true := ⟨by simp⟩
    repeat (first | refine hS.seq ?_ | refine hS.regionW ?_ | refine W.pop ?_ | refine W.yes ?_ | refine W.no ?_ | refine W.box (fun _ _ => ?_) | refine W.alloc (fun _ _ => ?_) | refine W.store ?_ | refine W.bs (fun _ _ => ?_) | refine W.fn hS (fun _ _ => ?_) | refine WL.nil ?_ | refine R.condT hS ?_ | refine R.condF hS ?_ | refine hS.skip ?_ | refine hS.block ?_ | refine hS.inBlock ?_ | refine R.ret hS ?_ | refine R.fin hS ?_ | refine R.begin hS ?_ | refine R.endRound hS ?_ | refine R.retRound hS ?_ | refine R.retC hS ?_ | refine R.endRangeDone hS ?_ | refine R.endRangeRet hS ?_)
    refine W.call hS c203 (fun r h2 hr => ?_)
    obtain ⟨bf, bs, rfl, fbf, fbs, nfs, x2, gbf, gbs⟩ := hr
    have x2c : ExtC h' h2 := ⟨x2⟩
    repeat (first | refine hS.seq ?_ | refine hS.regionW ?_ | refine W.pop ?_ | refine W.yes ?_ | refine W.no ?_ | refine W.box (fun _ _ => ?_) | refine W.alloc (fun _ _ => ?_) | refine W.store ?_ | refine W.bs (fun _ _ => ?_) | refine W.fn hS (fun _ _ => ?_) | refine WL.nil ?_ | refine R.condT hS ?_ | refine R.condF hS ?_ | refine hS.skip ?_ | refine hS.block ?_ | refine hS.inBlock ?_ | refine R.ret hS ?_ | refine R.fin hS ?_ | refine R.begin hS ?_ | refine R.endRound hS ?_ | refine R.retRound hS ?_ | refine R.retC hS ?_ | refine R.endRangeDone hS ?_ | refine R.endRangeRet hS ?_)
    refine R.range hS (fun r lp hs tm asg bd et ea eb xs fr fl nrl gr gl orr ol => ?_)
    have zx : Ext0 h' hs := inferInstance
    have wvn : ∀ b, h'.get b = none → blkOf wv ≠ some b := fun b hb e => ki.w.dom e hb
    have lpn : h'.get lp = none := (inferInstance : Fresh0 h' lp).out
    have nlp3 := ne_of_none ki.g3 lpn
    have nlp4 := ne_of_none ki.g4 lpn
    have nlp5 := ne_of_none ki.g5 lpn
    have nlps : rs ≠ lp := by obtain ⟨_, _, g, _⟩ := ki.gs; exact ne_of_none g lpn
    have nbf5 := ne_of_none ki.g5 fbf.out
    have nbfs : rs ≠ bf := by obtain ⟨_, _, g, _⟩ := ki.gs; exact ne_of_none g fbf.out
    have nbs5 := ne_of_none ki.g5 fbs.out
    have nbss : rs ≠ bs := by obtain ⟨_, _, g, _⟩ := ki.gs; exact ne_of_none g fbs.out
    have nlf : NeB bf lp := inferInstance
    have nls : NeB bs lp := inferInstance
    have lp0 : h0.get lp = none := fresh_of' lpn ki.ext
    have r0 : h0.get r = none := fresh_of' (inferInstance : Fresh0 h' r).out ki.ext
    have mkr : Marks h0 hs [{ target := .builtin .close (List.toArray [327]) 0 cst, args := (List.toArray [.chan (some c)]) }] (markOf r :: ds) := hmk.push zx.out (inferInstance : Fresh0 h' r).out gr.out orr.out r0
    refine it211 hS (ps := ps) (has := has) (most := most) (x := x) (p := p) (rh := rh) (rm := rm) (sl := sl) (fnx := 180) (tmps := tm) (j := 24) (assign := asg) (body := bd) (r := r) hn hnw
      (fun j h1 => ∃ seen work, InI c h0 h1 q3 q4 q5 rs { target := .builtin .close (List.toArray [327]) 0 cst, args := (List.toArray [.chan (some c)]) } (markOf r :: ds) lp bf bs (.loop (lpr .ready none 180 tm #[24] asg bd r)) (.cells (List.toArray [.pointer (some ⟨p, 0, none⟩)]) 198 (0, 0)) (.cells (List.toArray [.int .i64 x.t, .bool x.a, .bool x.b]) 206 (0, 0)) m seen work
        ((tailOf (stepsAt has most ps) m ((stepsAt has most ps x).drop j) seen work).map stepV) ps x) _ _ ?_ ?_ ?_ ?_ ?_
    · rintro j h1 h2 ⟨sn, wk, k⟩ e; exact ⟨sn, wk, k.ext' e⟩
    · rintro j h1 ⟨sn, wk, k⟩
      obtain ⟨wv1, k1, _⟩ := k.ex
      obtain ⟨e1, d1, u1, u2⟩ := hh
      obtain ⟨e2, d2, u3, u4⟩ := hm
      exact ⟨⟨k.gf⟩, ⟨k.gb⟩, ⟨(hg_wgh hp).ext k1.ext⟩, ⟨(sle_wgh hsl).ext k1.ext⟩, ⟨e1, d1, ⟨(hg_wgh u1).ext k1.ext⟩, ⟨u2⟩⟩, ⟨e2, d2, ⟨(hg_wgh u3).ext k1.ext⟩, ⟨u4⟩⟩, ⟨k.gl⟩⟩
    · -- one round
      rintro j s hjs hA hB ⟨sn, wk, k⟩ xAB cc cont
      obtain ⟨wv1, s0, w1, w2, w3⟩ := k.ex
      have s1 := s0.ext' xAB
      have k' := k.ext' xAB
      have j3 : HGC hB q3 _ := ⟨s1.g3⟩
      have j4 : HGC hB q4 _ := ⟨s1.g4⟩
      have j5 : HGC hB q5 _ := ⟨s1.g5⟩
      have jo5 : OwnC hB q5 := ⟨s1.o5⟩
      obtain ⟨es2, c2, gs2, ms2⟩ := s1.gs
      have js : HGC hB rs (.map es2 c2) := ⟨gs2⟩
      have jso : OwnC hB rs := ⟨s1.os⟩
      have jm : MiC spotK boolV es2 c2 (seenF sn) := ⟨ms2⟩
      have jl : HGC hB lp _ := ⟨k'.gl⟩
      have jol : OwnC hB lp := ⟨k'.ol⟩
      have jw : SlwC hB 3 wv1 _ := ⟨s1.w⟩
      have jsg := slw_single s1.w
      have nrs := s1.nrs
      have e1 : NeB q3 q5 := ⟨s1.ne.1⟩
      have e2 : NeB q4 q5 := ⟨s1.ne.2⟩
      have e3 : NeB q3 rs := ⟨nrs.1⟩
      have e4 : NeB q4 rs := ⟨nrs.2.1⟩
      have e5 : NeB q5 rs := ⟨nrs.2.2.1⟩
      have e6 : NeB rs q5 := ⟨nrs.2.2.1.symm⟩
      have e7 : NeB q3 lp := ⟨nlp3⟩
      have e8 : NeB q4 lp := ⟨nlp4⟩
      have e9 : NeB q5 lp := ⟨nlp5⟩
      have ea' : NeB rs lp := ⟨nlps⟩
      have eb' : NeB lp rs := ⟨nlps.symm⟩
      have ec' : NeB lp q5 := ⟨nlp5.symm⟩
      have d1 : NeB bf q5 := ⟨nbf5.symm⟩
      have d2 : NeB bs q5 := ⟨nbs5.symm⟩
      have d3 : NeB bf rs := ⟨nbfs.symm⟩
      have d4 : NeB bs rs := ⟨nbss.symm⟩
      have b1 : NbC wv1 q3 := ⟨s1.nb.1⟩
      have b2 : NbC wv1 q4 := ⟨s1.nb.2.1⟩
      have b3 : NbC wv1 q5 := ⟨s1.nb.2.2⟩
      have b4 : NbC wv1 rs := ⟨nrs.2.2.2⟩
      have b5 : NbC wv1 lp := ⟨w1⟩
      have b6 : NbC wv1 bf := ⟨w2⟩
      have b7 : NbC wv1 bs := ⟨w3⟩
      have jbf : HGC hB bf _ := ⟨k'.gf⟩
      have jbs : HGC hB bs _ := ⟨k'.gb⟩
      have kp : KpC hA hB hB := ⟨Kept.refl⟩
      have dl : DomC hA lp := by have : HGC hA lp _ := ⟨k.gl⟩; infer_instance
      have d5 : DomC hA q5 := by have : HGC hA q5 _ := ⟨s0.g5⟩; infer_instance
      have dr : DomC hA rs := by obtain ⟨_, _, g, _⟩ := s0.gs; have : HGC hA rs _ := ⟨g⟩; infer_instance
      have jmk : MkC h0 hB _ (markOf r :: ds) := ⟨k'.mks⟩
      have jx : Ext0 (h0.wgh hB.gh) hB := ⟨s1.ext⟩
      have f0l : Fresh0 (h0.wgh hB.gh) lp := ⟨lp0⟩
      have f05 : Fresh0 (h0.wgh hB.gh) q5 := ⟨s1.fr.2.2.1⟩
      have f0r : Fresh0 (h0.wgh hB.gh) rs := ⟨s1.fr.2.2.2.1⟩
      have hdr : (stepsAt has most ps x).drop j = s :: (stepsAt has most ps x).drop (j + 1) := by
        have hl := (List.getElem?_eq_some_iff.1 hjs).1
        rw [List.drop_eq_getElem_cons hl, (List.getElem?_eq_some_iff.1 hjs).2]
      have hgB := k'.gh
      rw [hdr] at hgB
      refine R.round et ea eb ?_
      by_cases hsn : s.leads ∈ sn
      · have i1 : IsC (!((seenF sn ⟨if s.back then s.p.frm.t else s.p.to.t, if s.back then s.p.frm.a else s.p.to.a, if s.back then s.p.frm.b else s.p.to.b⟩).getD false)) false := ⟨by
          show (!((seenF sn s.leads).getD false)) = false
          simp only [seenF, if_pos hsn]; rfl⟩
        repeat (first | refine hS.seq ?_ | refine hS.regionW ?_ | refine W.pop ?_ | refine W.yes ?_ | refine W.no ?_ | refine W.box (fun _ _ => ?_) | refine W.alloc (fun _ _ => ?_) | refine W.store ?_ | refine W.bs (fun _ _ => ?_) | refine W.fn hS (fun _ _ => ?_) | refine WL.nil ?_ | refine R.condT hS ?_ | refine R.condF hS ?_ | refine hS.skip ?_ | refine hS.block ?_ | refine hS.inBlock ?_ | refine R.ret hS ?_ | refine R.fin hS ?_ | refine R.begin hS ?_ | refine R.endRound hS ?_ | refine R.retRound hS ?_ | refine R.retC hS ?_ | refine R.endRangeDone hS ?_ | refine R.endRangeRet hS ?_)
        refine cont _ ⟨sn, wk, ⟨wv1, ⟨ext_self' (g := hB.gh) Ext0.out, HGC.out, HGC.out, HGC.out, OwnC.out, ⟨es2, c2, HGC.out, ms2⟩, OwnC.out, SlwC.out, s1.nb, s1.ne, s1.fr⟩, w1, w2, w3⟩, HGC.out, OwnC.out, HGC.out, HGC.out, MkC.out, ?_, k.cnt⟩ KpC.out
        refine (gh_of (h0 := h0.wgh hB.gh)).trans ?_
        show hB.gh = _
        rw [hgB, tailOf_seen hsn]
      · have i1 : IsC (!((seenF sn ⟨if s.back then s.p.frm.t else s.p.to.t, if s.back then s.p.frm.a else s.p.to.a, if s.back then s.p.frm.b else s.p.to.b⟩).getD false)) true := ⟨by
          show (!((seenF sn s.leads).getD false)) = true
          simp only [seenF, if_neg hsn]; rfl⟩
        repeat (first | refine hS.seq ?_ | refine hS.regionW ?_ | refine W.pop ?_ | refine W.yes ?_ | refine W.no ?_ | refine W.box (fun _ _ => ?_) | refine W.alloc (fun _ _ => ?_) | refine W.store ?_ | refine W.bs (fun _ _ => ?_) | refine W.fn hS (fun _ _ => ?_) | refine WL.nil ?_ | refine R.condT hS ?_ | refine R.condF hS ?_ | refine hS.skip ?_ | refine hS.block ?_ | refine hS.inBlock ?_ | refine R.ret hS ?_ | refine R.fin hS ?_ | refine R.begin hS ?_ | refine R.endRound hS ?_ | refine R.retRound hS ?_ | refine R.retC hS ?_ | refine R.endRangeDone hS ?_ | refine R.endRangeRet hS ?_)
        rename_i q6 f6 hx6 ex6 q7 f7
        refine W.mapUp spotK boolV (fun es3 c3' m3 => ?_)
        repeat (first | refine hS.seq ?_ | refine hS.regionW ?_ | refine W.pop ?_ | refine W.yes ?_ | refine W.no ?_ | refine W.box (fun _ _ => ?_) | refine W.alloc (fun _ _ => ?_) | refine W.store ?_ | refine W.bs (fun _ _ => ?_) | refine W.fn hS (fun _ _ => ?_) | refine WL.nil ?_ | refine R.condT hS ?_ | refine R.condF hS ?_ | refine hS.skip ?_ | refine hS.block ?_ | refine hS.inBlock ?_ | refine R.ret hS ?_ | refine R.fin hS ?_ | refine R.begin hS ?_ | refine R.endRound hS ?_ | refine R.retRound hS ?_ | refine R.retC hS ?_ | refine R.endRangeDone hS ?_ | refine R.endRangeRet hS ?_)
        have hwl : wk.length ≤ 1000000 := by have := k.cnt; omega
        refine W.append (xs := (x :: wk).map Spot.c) (ys := [Spot.c s.leads]) (by_ := 16) (by kernel_rfl) SlwC.out (slOne (n := 3) HGC.out rfl) (sgl_sp _) (by simp; omega) (by simp; omega) (fun s' h7 hw7 fr7 hb7 => ?_)
        have y3 := fr7.hg (b := q3)
        have y4 := fr7.hg (b := q4)
        have y5 := fr7.hg (b := q5)
        have yo5 := fr7.ow (b := q5)
        have ys := fr7.hg (b := rs)
        have yos := fr7.ow (b := rs)
        have yl := fr7.hg (b := lp)
        have yol := fr7.ow (b := lp)
        have yf := fr7.hg (b := bf)
        have yb := fr7.hg (b := bs)
        have y6 := fr7.hg (b := q6)
        have c3 : NbC s' q3 := nb_of hb7
        have c4 : NbC s' q4 := nb_of hb7
        have c5 : NbC s' q5 := nb_of hb7
        have cl : NbC s' lp := nb_of hb7
        have cf : NbC s' bf := nb_of hb7
        have cb : NbC s' bs := nb_of hb7
        have yw : SlwC h7 3 s' _ := ⟨hw7⟩
        have ysg := slw_single hw7
        have kp7 : KpC hA hB h7 := kp_frw fr7 (fun b hb => s0.w.dom hb)
        have jw' : SlwC _ 3 wv1 ((x :: wk).map Spot.c) := sw_of fr7
        have mk7 : Marks h0 h7 _ (markOf r :: ds) := marks_frw (mk_of fr7) fr7 jw'.out
        have x6 := ext_of (h := h0.wgh hB.gh) fr7
        have x7 : Ext (h0.wgh hB.gh) h7 := fr7.ext s1.fr.2.2.2.2 x6
        have nw7 : NewB h0 s' := new_drop hb7 s1.fr.2.2.2.2 x6
        refine W.store ?_
        refine WL.nil ?_
        refine at_heap (fun h => SkI c h0 h q3 q4 q5 rs s' (s.leads :: sn) (x :: (wk ++ [s.leads])) ∧ HGC h lp (.loop (lpr .busy none 180 tm #[24] asg bd r)) ∧ OwnC h lp ∧ HGC h bf (.cells (List.toArray [.pointer (some ⟨p, 0, none⟩)]) 198 (0, 0)) ∧ HGC h bs (.cells (List.toArray [.int .i64 x.t, .bool x.a, .bool x.b]) 206 (0, 0)) ∧ Marks h0 h [({ target := .builtin .close (List.toArray [327]) 0 cst, args := (List.toArray [.chan (some c)]) } : Deferred)] (markOf r :: ds) ∧ h.gh = hB.gh ∧ Kept hA hB h ∧ HGC h q6 (.cells (List.toArray [.int .i64 s.p.frm.t, .bool s.p.frm.a, .bool s.p.frm.b, .int .i64 s.p.to.t, .bool s.p.to.a, .bool s.p.to.b, .int .i64 s.p.tie, .bool s.back, .int .i64 s.free]) 214 (0, 0))) ⟨⟨?_, HGC.out, HGC.out, HGC.out, OwnC.out, ⟨es3, c3', HGC.out, ?_⟩, OwnC.out, ?_, ⟨c3.out, c4.out, c5.out⟩, s1.ne, s1.fr.1, s1.fr.2.1, s1.fr.2.2.1, s1.fr.2.2.2.1, nw7⟩, inferInstance, inferInstance, inferInstance, inferInstance, ?_, ?_, ?_, inferInstance⟩ (fun h8 hk8 => ?_)
        · exact ext_self' (Ext.upd' (h₀ := h0.wgh hB.gh) x7 s1.fr.2.2.1)
        · rw [← seenF_cons]; exact m3.out
        · have yw2 : SlwC (h7.upd q5 (.cells (List.toArray [s']) 329 (0, 0))) 3 s' ((x :: wk).map Spot.c ++ [Spot.c s.leads]) := inferInstance
          have := yw2.out
          rw [show (x :: (wk ++ [s.leads])).map Spot.c = (x :: wk).map Spot.c ++ [Spot.c s.leads] by simp]
          exact this
        · have mk8 : MkC h0 h7 _ (markOf r :: ds) := ⟨mk7⟩
          exact MkC.out
        · exact (Ext.upd' (h₀ := h0.wgh hB.gh) x7 s1.fr.2.2.1).gh
        · exact KpC.out
        obtain ⟨sk8, gl8, ol8, gf8, gb8, mk8, gh8, kp8, g68⟩ := hk8
        have j38 : HGC h8 q3 _ := ⟨sk8.g3⟩
        refine hS.region3 ?_
        refine W.pop ?_
        refine W.pop ?_
        refine WL.nil ?_
        refine R.send hR (v := stepV s) (vs := (tailOf (stepsAt has most ps) m ((stepsAt has most ps x).drop (j + 1)) (s.leads :: sn) (wk ++ [s.leads])).map stepV) rfl ?_ ?_
        · rw [gh8, hgB, tailOf_new hsn]; rfl
        refine hS.regionEnd ?_
        refine at_heap (fun h => SkI c h0 h q3 q4 q5 rs s' (s.leads :: sn) (x :: (wk ++ [s.leads])) ∧ HGC h lp (.loop (lpr .busy none 180 tm #[24] asg bd r)) ∧ OwnC h lp ∧ HGC h bf (.cells (List.toArray [.pointer (some ⟨p, 0, none⟩)]) 198 (0, 0)) ∧ HGC h bs (.cells (List.toArray [.int .i64 x.t, .bool x.a, .bool x.b]) 206 (0, 0)) ∧ Marks h0 h [({ target := .builtin .close (List.toArray [327]) 0 cst, args := (List.toArray [.chan (some c)]) } : Deferred)] (markOf r :: ds) ∧ Kept hA hB h ∧
          h.gh = (tailOf (stepsAt has most ps) m ((stepsAt has most ps x).drop (j + 1)) (s.leads :: sn) (wk ++ [s.leads])).map stepV) ⟨sk8.wghI, ⟨hg_wgh gl8.out⟩, ⟨own_wgh ol8.out⟩, ⟨hg_wgh gf8.out⟩, ⟨hg_wgh gb8.out⟩, marks_wgh mk8, kp8.wghI, rfl⟩ (fun h9 hk9 => ?_)
        obtain ⟨sk9, gl9, ol9, gf9, gb9, mk9, kp9, gh9⟩ := hk9
        repeat (first | refine hS.seq ?_ | refine hS.regionW ?_ | refine W.pop ?_ | refine W.yes ?_ | refine W.no ?_ | refine W.box (fun _ _ => ?_) | refine W.alloc (fun _ _ => ?_) | refine W.store ?_ | refine W.bs (fun _ _ => ?_) | refine W.fn hS (fun _ _ => ?_) | refine WL.nil ?_ | refine R.condT hS ?_ | refine R.condF hS ?_ | refine hS.skip ?_ | refine hS.block ?_ | refine hS.inBlock ?_ | refine R.ret hS ?_ | refine R.fin hS ?_ | refine R.begin hS ?_ | refine R.endRound hS ?_ | refine R.retRound hS ?_ | refine R.retC hS ?_ | refine R.endRangeDone hS ?_ | refine R.endRangeRet hS ?_)
        refine cont _ ⟨s.leads :: sn, wk ++ [s.leads], ⟨s', sk9.updl nlp3 nlp4 nlp5 nlps cl.out lp0, cl.out, cf.out, cb.out⟩, HG.hit, Own.hit, gf9.out.ne nlf.out, gb9.out.ne nls.out, mk9.upd (nd_of gl9.out), ?_, ?_⟩ (kp9.updl dl.out)
        · exact gh_upd.trans gh9
        · have hsp := leads_spots (List.mem_of_getElem? hjs)
          have := unseen_cons hsp hsn
          have := k.cnt
          simp only [List.length_append, List.length_singleton]; omega
    · -- the spot's steps are told
      rintro hA ⟨sn, wk, k⟩
      obtain ⟨wv1, s1, w1, w2, w3⟩ := k.ex
      have jl : HGC hA lp _ := ⟨k.gl⟩
      have jol : OwnC hA lp := ⟨k.ol⟩
      refine R.endRangeDone hS ?_
      have hgA := k.gh
      rw [List.drop_length, tailOf_nil] at hgA
      refine at_heap (fun h => SkI c h0 h q3 q4 q5 rs wv1 sn (x :: wk) ∧ Marks h0 h [({ target := .builtin .close (List.toArray [327]) 0 cst, args := (List.toArray [.chan (some c)]) } : Deferred)] (markOf r :: ds) ∧ h.gh = (bfs (stepsAt has most ps) m sn wk).map stepV) ⟨s1.updl nlp3 nlp4 nlp5 nlps w1 lp0, k.mks.upd (nd_of k.gl), gh_upd.trans hgA⟩ (fun h3 hk3 => ?_)
      obtain ⟨s3, mk3, gh3⟩ := hk3
      have j3 : HGC h3 q3 _ := ⟨s3.g3⟩
      have j4 : HGC h3 q4 _ := ⟨s3.g4⟩
      have j5 : HGC h3 q5 _ := ⟨s3.g5⟩
      obtain ⟨es2, c2, gs2, ms2⟩ := s3.gs
      have js : HGC h3 rs (.map es2 c2) := ⟨gs2⟩
      have jso : OwnC h3 rs := ⟨s3.os⟩
      have jw : SlwC h3 3 wv1 _ := ⟨s3.w⟩
      have jsg := slw_single s3.w
      have jsd : SingleC (dropV 3 1 wv1) := ⟨by obtain ⟨_, ⟨rfl, _⟩ | ⟨_, _, _, _, _, rfl, _⟩⟩ := s3.w <;> rfl⟩
      have le1 : LeC 1 ((x :: wk).map Spot.c).length := ⟨by simp⟩
      have n1 : NatC 1 1 := ⟨rfl⟩
      have mkc : MkC h0 h3 _ ({ target := .collected r, args := #[] } :: ds) := ⟨mk3⟩
      have jx : Ext0 (h0.wgh h3.gh) h3 := ⟨s3.ext⟩
      repeat (first | refine hS.seq ?_ | refine hS.regionW ?_ | refine W.pop ?_ | refine W.yes ?_ | refine W.no ?_ | refine W.box (fun _ _ => ?_) | refine W.alloc (fun _ _ => ?_) | refine W.store ?_ | refine W.bs (fun _ _ => ?_) | refine W.fn hS (fun _ _ => ?_) | refine WL.nil ?_ | refine R.condT hS ?_ | refine R.condF hS ?_ | refine hS.skip ?_ | refine hS.block ?_ | refine hS.inBlock ?_ | refine R.ret hS ?_ | refine R.fin hS ?_ | refine R.begin hS ?_ | refine R.endRound hS ?_ | refine R.retRound hS ?_ | refine R.retC hS ?_ | refine R.endRangeDone hS ?_ | refine R.endRangeRet hS ?_)
      rename_i q5' f5'
      have jw2 : SlwC h3 3 (dropV 3 1 wv1) (wk.map Spot.c) := ⟨s3.w.drop (i := 1) (by simp)⟩
      have ja : FreshAt h3 q5' := ⟨f5'.out⟩
      have jf5 : Fresh0 (h0.wgh h3.gh) q5' := inferInstance
      have u3 : NeB q3 q5' := inferInstance
      have u4 : NeB q4 q5' := inferInstance
      have u5 : blkOf (dropV 3 1 wv1) ≠ some q5' := by
        rw [blk_drop]
        exact (inferInstance : NbC wv1 q5').out
      have u6 : NbC (dropV 3 1 wv1) q5' := ⟨u5⟩
      refine hS.inLoop ?_
      refine ih (m, sn, wk) _ _ _ (by dsimp only; omega) ⟨inferInstance, inferInstance, inferInstance, q5', dropV 3 1 wv1, inferInstance, ⟨ext_self' (g := h3.gh) Ext0.out, HGC.out, HGC.out, HGC.out, OwnC.out, ⟨es2, c2, HGC.out, ms2⟩, OwnC.out, SlwC.out, ⟨by rw [blk_drop]; exact s3.nb.1, by rw [blk_drop]; exact s3.nb.2.1, u5⟩, ⟨u3.out, u4.out⟩, s3.fr.1, s3.fr.2.1, jf5.out, s3.fr.2.2.2.1, fun b hb => s3.fr.2.2.2.2 b (by rw [blk_drop] at hb; exact hb)⟩, MkC.out, ?_, k.cnt, by dsimp only; omega⟩
      exact (gh_of (h0 := h0.wgh h3.gh)).trans gh3
    · refine ⟨seen, work, ⟨wv, ki.ext' zx.out, wvn lp lpn, wvn bf fbf.out, wvn bs fbs.out⟩, gl.out, ol.out, HGC.out, HGC.out, mkr, ?_, by simp at hcnt; omega⟩
      rw [zx.out.gh, hg, bfs_succ]; rfl
end Go.Proofs.YtankmjkogcbnfaaDoor
/-
  fix.reach: what the goroutine tells, as a map.
-/
namespace Go.Proofs.YtankmjkogcbnfaaDoor
open Go Go.SL Go.Conc
/-- The steps by the spots to which they lead. -/
def byOf (L : List Step) : Spot → Option Step := L.foldl (fun f s => updF f s.leads s) (fun _ => none)
theorem byOf_snoc {L : List Step} {s : Step} : byOf (L ++ [s]) = updF (byOf L) s.leads s := by simp [byOf]
def fuelOf (ps : List Pipe) : Nat := unseen ps [srcS] + 1
/-- What reach finds. -/
def found (ps : List Pipe) (has most : Pipe → Option Int) : List Step := bfs (stepsAt has most ps) (fuelOf ps) [srcS] [srcS]
theorem unseen_le {ps : List Pipe} {seen : List Spot} : unseen ps seen ≤ 2 * ps.length := by
  unfold unseen spots
  refine Nat.le_trans (List.length_filter_le _ _) ?_
  simp; omega
theorem ext_back {h0 h' : LH} {c : Nat} {vs : List Value} {o : Obj} (hwf : ∀ b, h0.own b → h0.get b ≠ none) (hc : h0.get c = none) (x : Ext ((h0.upd c o).ro c vs) h') (hn : h'.gh = []) (hg : h0.gh = []) : Ext h0 (h'.back (h0.upd c o).own) := by
  have key : ∀ b y, h0.get b = some y → h'.get b = some y := fun b y hb => by
    have hne : b ≠ c := fun q => by subst q; rw [hc] at hb; cases hb
    exact x.get b y (by simp [LH.ro, LH.upd, hne, hb])
  refine ⟨key, fun b hb => .inr ⟨.inl hb, ?_⟩, by show h'.gh = _; rw [hn, hg]⟩
  cases hgt : h0.get b with
  | none => exact absurd hgt (hwf b hb)
  | some y => rw [key b y hgt]; simp
theorem ext_wgh0 {h h' : LH} {vs : List Value} (x : Ext (h.wgh h'.gh) h') (e : h'.gh = vs) : Ext (h.wgh vs) h' := e ▸ x
theorem hg_back {h : LH} {R : Nat → Prop} {b : Nat} {o : Obj} (x : HG h b o) : HG (h.back R) b o := x
theorem own_back {h : LH} {R : Nat → Prop} {b : Nat} (x : Own h b) : Own (h.back R) b := .inl x
attribute [local irreducible] putE ofL Look Nth Ev HG Own SubL Wr Sgl EvL LH.upd WL OpS Any Con PopW Pop
theorem c121 {ps : List Pipe} {has most : Pipe → Option Int} {p rh rm : Nat} {sl : Value} {h : LH} (hgh : h.gh = [])
    (hp : HG h p (.cells (List.toArray [sl, .map (some rh), .map (some rm)]) 211 (0, 0))) (hsl : SlE h 7 sl (ps.map Pipe.c)) (hh : ∃ es cl, HG h rh (.map es cl) ∧ MapI pipeK intK es cl has) (hm : ∃ es cl, HG h rm (.map es cl) ∧ MapI pipeK intK es cl most)
    (g0 : HG h 0 (.cells (List.toArray [.int .i64 (-1), .bool false, .bool false]) 206 (0, 0))) (hn : ps.length ≤ 10000) (hnw : ∀ q ∈ ps, NoW (amt most q - amt has q)) :
    ConM Tryd.prog 121 [.pointer (some ⟨p, 0, none⟩)] h (fun r h' => Ext h h' ∧ ∃ rb es cl, r = .map (some rb) ∧ h.get rb = none ∧ HG h' rb (.map es cl) ∧ Own h' rb ∧ MapI spotK stepV es cl (byOf (found ps has most))) := by
  refine ConM.intro (m := 1) Tryd.func121 rfl Tryd.ntmps121 rfl (by decide) ?_
  intro S hM cc cs hc
  have hS := hM.reg
  refine hM.wf _ _ (fun hwf => ?_)
  repeat (first | refine hS.seq ?_ | refine hS.regionW ?_ | refine W.pop ?_ | refine W.yes ?_ | refine W.no ?_ | refine W.box (fun _ _ => ?_) | refine W.alloc (fun _ _ => ?_) | refine W.store ?_ | refine W.bs (fun _ _ => ?_) | refine W.fn hS (fun _ _ => ?_) | refine WL.nil ?_ | refine R.condT hS ?_ | refine R.condF hS ?_ | refine hS.skip ?_ | refine hS.block ?_ | refine hS.inBlock ?_ | refine R.ret hS ?_ | refine R.fin hS ?_ | refine R.begin hS ?_ | refine R.endRound hS ?_ | refine R.retRound hS ?_ | refine R.retC hS ?_ | refine R.endRangeDone hS ?_ | refine R.endRangeRet hS ?_)
  refine W.makeChan (dir := .both) (el := 214) (by kernel_rfl) (by kernel_rfl) (fun c hfc => ?_)
  refine W.pop ?_
  refine WL.nil ?_
  refine hS.seq ?_
  refine hS.region3 ?_
  refine W.pop ?_
  refine W.pop ?_
  refine WL.nil ?_
  have hne : ∀ b o, HG h b o → b ≠ c := fun b o hb => ne_of_none hb hfc.out
  have kro : ∀ (vs : List Value) b o, HG h b o → HG ((h.upd c (.chan 0 #[] false 0 0 false)).ro c vs) b o := fun vs b o hb => hg_ro (hb.ne (hne b o hb)) (hne b o hb)
  refine R.go hM (c := c) (z := stepV step0) (vs := (found ps has most).map stepV) rfl HG.hit (fun Tf hT => ?_) (fun Sf hR => ?_)
  · have hS2 := hS
    clear hS
    have hS := fam_reg hT.own
    refine hS.regionEnd ?_
    refine at_heap (fun h1 => Ext (((h.upd c (.chan 0 #[] false 0 0 false)).ro c []).wgh h1.gh) h1 ∧ h1.gh = (found ps has most).map stepV) ⟨Ext.refl _, rfl⟩ (fun h1 hk => ?_)
    obtain ⟨xB, gh1⟩ := hk
    repeat (first | refine hS.seq ?_ | refine hS.regionW ?_ | refine W.pop ?_ | refine W.yes ?_ | refine W.no ?_ | refine W.box (fun _ _ => ?_) | refine W.alloc (fun _ _ => ?_) | refine W.store ?_ | refine W.bs (fun _ _ => ?_) | refine W.fn hS (fun _ _ => ?_) | refine WL.nil ?_ | refine R.condT hS ?_ | refine R.condF hS ?_ | refine hS.skip ?_ | refine hS.block ?_ | refine hS.inBlock ?_ | refine R.ret hS ?_ | refine R.fin hS ?_ | refine R.begin hS ?_ | refine R.endRound hS ?_ | refine R.retRound hS ?_ | refine R.retC hS ?_ | refine R.endRangeDone hS ?_ | refine R.endRangeRet hS ?_)
    refine W.makeMap (fun rb hrb => ?_)
    repeat (first | refine hS.seq ?_ | refine hS.regionW ?_ | refine W.pop ?_ | refine W.yes ?_ | refine W.no ?_ | refine W.box (fun _ _ => ?_) | refine W.alloc (fun _ _ => ?_) | refine W.store ?_ | refine W.bs (fun _ _ => ?_) | refine W.fn hS (fun _ _ => ?_) | refine WL.nil ?_ | refine R.condT hS ?_ | refine R.condF hS ?_ | refine hS.skip ?_ | refine hS.block ?_ | refine hS.inBlock ?_ | refine R.ret hS ?_ | refine R.fin hS ?_ | refine R.begin hS ?_ | refine R.endRound hS ?_ | refine R.retRound hS ?_ | refine R.retC hS ?_ | refine R.endRangeDone hS ?_ | refine R.endRangeRet hS ?_)
    refine hS.loop ?_
    have hrb0 : h.get rb = none := by
      have k1 := fresh_of' (h0 := (h.upd c (.chan 0 #[] false 0 0 false)).ro c []) hrb.out xB
      cases hg : h.get rb with
      | none => rfl
      | some o =>
        have := kro [] rb o (by simp only [HG]; exact hg)
        simp only [HG] at this
        rw [k1] at this; cases this
    have hrbB : ((h.upd c (.chan 0 #[] false 0 0 false)).ro c []).get rb = none := fresh_of' hrb.out xB
    refine loop_ind (fun (rest : List Step) => rest.length) (fun rest E h2 => ∃ done es cl, found ps has most = done ++ rest ∧ LookC E 3 (.chan (some c)) ∧ LookC E 4 (.map (some rb)) ∧ LookC E 10 (.chan (some c)) ∧ Ext (((h.upd c (.chan 0 #[] false 0 0 false)).ro c []).wgh h2.gh) h2 ∧ h2.gh = rest.map stepV ∧ HGC h2 rb (.map es cl) ∧ OwnC h2 rb ∧ MiC spotK stepV es cl (byOf done)) ?_ (found ps has most) _ _
      ⟨[], _, _, rfl, inferInstance, inferInstance, inferInstance, by rw [gh_upd]; exact Ext.upd' (h₀ := ((h.upd c (.chan 0 #[] false 0 0 false)).ro c []).wgh h1.gh) xB hrbB, gh_upd.trans gh1, inferInstance, inferInstance, inferInstance⟩
    rintro rest E h2 ⟨done, es, cl, hfd, l3, l4, l10, x2, g2, gm, om, mm⟩ ih
    refine hS.seq ?_
    refine hS.region2 ?_
    cases rest with
    | nil =>
      refine R.recvStop hT rfl (dir := .both) (el := 214) (by kernel_rfl) (by kernel_rfl) g2 ?_
      have x3 := ext_back hwf hfc.out (ext_wgh (ws := []) x2) rfl hgh
      refine at_heap (fun hf => Ext h hf ∧ HG hf rb (.map es cl) ∧ Own hf rb) ⟨x3, hg_back (hg_wgh gm.out), own_back (own_wgh om.out)⟩ (fun hf hk => ?_)
      obtain ⟨xf, gf, of⟩ := hk
      clear hS
      have hS := hS2
      refine hS.regionRest2 ?_
      repeat (first | refine hS.seq ?_ | refine hS.regionW ?_ | refine W.pop ?_ | refine W.yes ?_ | refine W.no ?_ | refine W.box (fun _ _ => ?_) | refine W.alloc (fun _ _ => ?_) | refine W.store ?_ | refine W.bs (fun _ _ => ?_) | refine W.fn hS (fun _ _ => ?_) | refine WL.nil ?_ | refine R.condT hS ?_ | refine R.condF hS ?_ | refine hS.skip ?_ | refine hS.block ?_ | refine hS.inBlock ?_ | refine R.ret hS ?_ | refine R.fin hS ?_ | refine R.begin hS ?_ | refine R.endRound hS ?_ | refine R.retRound hS ?_ | refine R.retC hS ?_ | refine R.endRangeDone hS ?_ | refine R.endRangeRet hS ?_)
      refine hS.exit rfl ?_
      repeat (first | refine hS.seq ?_ | refine hS.regionW ?_ | refine W.pop ?_ | refine W.yes ?_ | refine W.no ?_ | refine W.box (fun _ _ => ?_) | refine W.alloc (fun _ _ => ?_) | refine W.store ?_ | refine W.bs (fun _ _ => ?_) | refine W.fn hS (fun _ _ => ?_) | refine WL.nil ?_ | refine R.condT hS ?_ | refine R.condF hS ?_ | refine hS.skip ?_ | refine hS.block ?_ | refine hS.inBlock ?_ | refine R.ret hS ?_ | refine R.fin hS ?_ | refine R.begin hS ?_ | refine R.endRound hS ?_ | refine R.retRound hS ?_ | refine R.retC hS ?_ | refine R.endRangeDone hS ?_ | refine R.endRangeRet hS ?_)
      rw [List.append_nil] at hfd
      exact hc _ _ ⟨xf, rb, es, cl, rfl, hrb0, gf, of, by rw [hfd]; exact mm.out⟩
    | cons s rest =>
      refine R.recv hT rfl (dir := .both) (el := 214) (by kernel_rfl) (by kernel_rfl) (v := stepV s) (vs := rest.map stepV) g2 ?_
      refine at_heap (fun h3 => Ext (((h.upd c (.chan 0 #[] false 0 0 false)).ro c []).wgh h3.gh) h3 ∧ h3.gh = rest.map stepV ∧ HGC h3 rb (.map es cl) ∧ OwnC h3 rb) ⟨ext_wgh x2, rfl, ⟨hg_wgh gm.out⟩, ⟨own_wgh om.out⟩⟩ (fun h3 hk => ?_)
      obtain ⟨x3, g3, gm3, om3⟩ := hk
      refine hS.regionRest2 ?_
      repeat (first | refine hS.seq ?_ | refine hS.regionW ?_ | refine W.pop ?_ | refine W.yes ?_ | refine W.no ?_ | refine W.box (fun _ _ => ?_) | refine W.alloc (fun _ _ => ?_) | refine W.store ?_ | refine W.bs (fun _ _ => ?_) | refine W.fn hS (fun _ _ => ?_) | refine WL.nil ?_ | refine R.condT hS ?_ | refine R.condF hS ?_ | refine hS.skip ?_ | refine hS.block ?_ | refine hS.inBlock ?_ | refine R.ret hS ?_ | refine R.fin hS ?_ | refine R.begin hS ?_ | refine R.endRound hS ?_ | refine R.retRound hS ?_ | refine R.retC hS ?_ | refine R.endRangeDone hS ?_ | refine R.endRangeRet hS ?_)
      refine hS.regionA mixed [4] ?_
      first | (refine A.takeM 0 rfl (by kernel_rfl) (by intro _ _ e; cases e) ?_) | (refine A.take 0 rfl (by kernel_rfl) (by intro _ _ e; cases e) ?_)
      refine A.take 1 rfl (by kernel_rfl) (by intro _ _ e; cases e) ?_
      refine A.take 3 rfl (by kernel_rfl) (by intro _ _ e; cases e) ?_
      refine A.one 2 rfl (by kernel_rfl) ?_
      first | refine W.pop ?_ | refine W.fn hS (fun _ _ => ?_) | refine W.bs (fun _ _ => ?_) | refine W.box (fun _ _ => ?_) | refine W.alloc (fun _ _ => ?_) | refine W.store ?_
      refine A.soft ?_
      refine A.one 4 rfl (by kernel_rfl) ?_
      refine W.mapUp spotK stepV (fun es1 c1 m1 => ?_)
      refine A.hard (by rfl) ?_
      refine Any.done (by kernel_rfl) ?_
      repeat (first | refine hS.seq ?_ | refine hS.regionW ?_ | refine W.pop ?_ | refine W.yes ?_ | refine W.no ?_ | refine W.box (fun _ _ => ?_) | refine W.alloc (fun _ _ => ?_) | refine W.store ?_ | refine W.bs (fun _ _ => ?_) | refine W.fn hS (fun _ _ => ?_) | refine WL.nil ?_ | refine R.condT hS ?_ | refine R.condF hS ?_ | refine hS.skip ?_ | refine hS.block ?_ | refine hS.inBlock ?_ | refine R.ret hS ?_ | refine R.fin hS ?_ | refine R.begin hS ?_ | refine R.endRound hS ?_ | refine R.retRound hS ?_ | refine R.retC hS ?_ | refine R.endRangeDone hS ?_ | refine R.endRangeRet hS ?_)
      refine hS.inLoop ?_
      have jx : Ext0 (((h.upd c (.chan 0 #[] false 0 0 false)).ro c []).wgh h3.gh) h3 := ⟨x3⟩
      have jf : Fresh0 (((h.upd c (.chan 0 #[] false 0 0 false)).ro c []).wgh h3.gh) rb := ⟨hrbB⟩
      refine ih rest _ _ (by simp) ⟨done ++ [s], es1, c1, by rw [hfd]; simp, inferInstance, inferInstance, inferInstance, ext_self' (g := h3.gh) Ext0.out, (gh_of (h0 := ((h.upd c (.chan 0 #[] false 0 0 false)).ro c []).wgh h3.gh)).trans g3, inferInstance, inferInstance, ?_⟩
      rw [byOf_snoc]; exact m1
  · obtain ⟨e1, d1, u1, u2⟩ := hh
    obtain ⟨e2, d2, u3, u4⟩ := hm
    refine seek_sends (ps := ps) (has := has) (most := most) (N := fuelOf ps) hR (kro _ _ _ hp) ?_ ⟨e1, d1, kro _ _ _ u1, u2⟩ ⟨e2, d2, kro _ _ _ u3, u4⟩ (kro _ _ _ g0) (by omega) hnw (by have := unseen_le (ps := ps) (seen := [srcS]); unfold fuelOf; omega) (Nat.le_refl _) rfl
    obtain ⟨a, cap, rfl, h2, h3⟩ := hsl
    refine ⟨a, cap, rfl, h2, fun i cs hi => ?_⟩
    obtain ⟨b, off, cc', e, f, k1, k2, k3⟩ := h3 i cs hi
    exact ⟨b, off, cc', e, f, k1, kro _ _ _ k2, k3⟩
end Go.Proofs.YtankmjkogcbnfaaDoor
namespace Go.Proofs.YtankmjkogcbnfaaDoor
open Go Go.SL

/-! ### the search -/
theorem scan_sub : ∀ (l : List Step) (seen : List Spot), ∀ s ∈ scan l seen, s ∈ l
  | [], _, s, h => by simp [scan] at h
  | x :: l, seen, s, h => by
    simp only [scan] at h
    split at h
    · exact List.mem_cons_of_mem _ (scan_sub l seen s h)
    · rcases List.mem_cons.1 h with rfl | h
      · exact List.mem_cons_self
      · exact List.mem_cons_of_mem _ (scan_sub l _ s h)
theorem scan_nodup : ∀ (l : List Step) (seen : List Spot), ((scan l seen).map Step.leads).Nodup ∧ ∀ s ∈ scan l seen, s.leads ∉ seen
  | [], _ => by simp [scan]
  | x :: l, seen => by
    simp only [scan]
    split
    · exact scan_nodup l seen
    · rename_i hx
      obtain ⟨h1, h2⟩ := scan_nodup l (x.leads :: seen)
      refine ⟨?_, ?_⟩
      · rw [List.map_cons, List.nodup_cons]
        refine ⟨fun hm => ?_, h1⟩
        obtain ⟨s, hs, e⟩ := List.mem_map.1 hm
        exact h2 s hs (by rw [e]; exact List.mem_cons_self)
      · intro s hs
        rcases List.mem_cons.1 hs with rfl | hs
        · exact hx
        · exact fun h => h2 s hs (List.mem_cons_of_mem _ h)
theorem scan_all : ∀ (l : List Step) (seen : List Spot), ∀ s ∈ l, s.leads ∈ seen ∨ s.leads ∈ (scan l seen).map Step.leads
  | [], _, s, h => by cases h
  | x :: l, seen, s, h => by
    simp only [scan]
    rcases List.mem_cons.1 h with rfl | h
    · split
      · exact .inl ‹_›
      · exact .inr (by simp)
    · split
      · exact scan_all l seen s h
      · rcases scan_all l (x.leads :: seen) s h with h1 | h1
        · rcases List.mem_cons.1 h1 with h1 | h1
          · exact .inr (by rw [h1]; simp)
          · exact .inl h1
        · exact .inr (by rw [List.map_cons]; exact List.mem_cons_of_mem _ h1)
theorem scan_unseen {ps : List Pipe} : ∀ (l : List Step) (seen : List Spot), (∀ s ∈ l, s.leads ∈ spots ps) → unseen ps (((scan l seen).map Step.leads).reverse ++ seen) + (scan l seen).length ≤ unseen ps seen
  | [], seen, _ => by simp [scan]
  | x :: l, seen, h => by
    simp only [scan]
    split
    · exact scan_unseen l seen fun s hs => h s (List.mem_cons_of_mem _ hs)
    · rename_i hx
      have h1 := scan_unseen (ps := ps) l (x.leads :: seen) fun s hs => h s (List.mem_cons_of_mem _ hs)
      have h2 := unseen_cons (h x List.mem_cons_self) hx
      simp only [List.map_cons, List.reverse_cons, List.append_assoc, List.singleton_append, List.length_cons] at h1 ⊢
      omega

structure Bfs (st : Spot → List Step) (seen work : List Spot) (out : List Step) : Prop where
  nodup : (out.map Step.leads).Nodup
  new : ∀ s ∈ out, s.leads ∉ seen
  frm : ∀ (i : Nat) (s : Step), out[i]? = some s → ∃ x, (x ∈ work ∨ ∃ j s', j < i ∧ out[j]? = some s' ∧ s'.leads = x) ∧ s ∈ st x
  all : ∀ x, (x ∈ work ∨ x ∈ out.map Step.leads) → ∀ s ∈ st x, s.leads ∈ seen ∨ s.leads ∈ out.map Step.leads
theorem bfs_spec {ps : List Pipe} {st : Spot → List Step} (hst : ∀ x, ∀ s ∈ st x, s.leads ∈ spots ps) : ∀ (n : Nat) (seen work : List Spot), unseen ps seen + work.length ≤ n → Bfs st seen work (bfs st n seen work)
  | 0, seen, work, h => by
    have : work = [] := List.eq_nil_of_length_eq_zero (by omega)
    subst this
    exact ⟨by simp [bfs], by simp [bfs], by simp [bfs], by simp [bfs]⟩
  | n + 1, seen, [], h => ⟨by simp [bfs], by simp [bfs], by simp [bfs], by simp [bfs]⟩
  | n + 1, seen, x :: work, h => by
    have hs := scan_unseen (ps := ps) (st x) seen (hst x)
    have hl : ((scan (st x) seen).map Step.leads).length = (scan (st x) seen).length := by simp
    obtain ⟨i1, i2, i3, i4⟩ := bfs_spec hst n (((scan (st x) seen).map Step.leads).reverse ++ seen) (work ++ (scan (st x) seen).map Step.leads) (by simp at h ⊢; omega)
    obtain ⟨j1, j2⟩ := scan_nodup (st x) seen
    simp only [bfs]
    generalize bfs st n (((scan (st x) seen).map Step.leads).reverse ++ seen) (work ++ (scan (st x) seen).map Step.leads) = out at i1 i2 i3 i4
    have j3 := scan_all (st x) seen
    have j4 := scan_sub (st x) seen
    generalize scan (st x) seen = sc at *
    refine ⟨?_, ?_, ?_, ?_⟩
    · rw [List.map_append, List.nodup_append]
      refine ⟨j1, i1, fun a ha b hb e => ?_⟩
      subst e
      obtain ⟨s, hs, rfl⟩ := List.mem_map.1 hb
      exact i2 s hs (List.mem_append_left _ (List.mem_reverse.2 ha))
    · intro s hs'
      rcases List.mem_append.1 hs' with h1 | h1
      · exact j2 s h1
      · exact fun h2 => i2 s h1 (List.mem_append_right _ h2)
    · intro i s hi
      by_cases hlt : i < sc.length
      · rw [List.getElem?_append_left hlt] at hi
        exact ⟨x, .inl List.mem_cons_self, j4 s (List.mem_of_getElem? hi)⟩
      · rw [List.getElem?_append_right (by omega)] at hi
        obtain ⟨y, hy, hs'⟩ := i3 _ s hi
        refine ⟨y, ?_, hs'⟩
        rcases hy with hy | ⟨j, s', h1, h2, h3⟩
        · rcases List.mem_append.1 hy with hy | hy
          · exact .inl (List.mem_cons_of_mem _ hy)
          · obtain ⟨s', h1, h2⟩ := List.mem_map.1 hy
            obtain ⟨k, hk, e⟩ := List.mem_iff_getElem.1 h1
            exact .inr ⟨k, s', by omega, by rw [List.getElem?_append_left hk]; simp [hk, e], h2⟩
        · exact .inr ⟨sc.length + j, s', by omega, by rw [List.getElem?_append_right (by omega), Nat.add_sub_cancel_left]; exact h2, h3⟩
    · intro y hy s hs'
      have fin : ∀ t, (t ∈ (sc.map Step.leads).reverse ++ seen ∨ t ∈ out.map Step.leads) → (t ∈ seen ∨ t ∈ (sc ++ out).map Step.leads) := by
        intro t ht
        rw [List.map_append]
        rcases ht with ht | ht
        · rcases List.mem_append.1 ht with ht | ht
          · exact .inr (List.mem_append_left _ (List.mem_reverse.1 ht))
          · exact .inl ht
        · exact .inr (List.mem_append_right _ ht)
      rw [List.map_append] at hy
      have hy' : y = x ∨ (y ∈ work ++ sc.map Step.leads ∨ y ∈ out.map Step.leads) := by
        rcases hy with hy | hy
        · rcases List.mem_cons.1 hy with rfl | hy
          · exact .inl rfl
          · exact .inr (.inl (List.mem_append_left _ hy))
        · rcases List.mem_append.1 hy with hy | hy
          · exact .inr (.inl (List.mem_append_right _ hy))
          · exact .inr (.inr hy)
      rcases hy' with rfl | hy'
      · rcases j3 s hs' with h1 | h1
        · exact .inl h1
        · rw [List.map_append]; exact .inr (List.mem_append_left _ h1)
      · exact fin _ (i4 y hy' s hs')

theorem steps_begin {has most : Pipe → Option Int} {ps : List Pipe} {x : Spot} {s : Step} (h : s ∈ stepsAt has most ps x) : s.begins = x ∧ s.p ∈ ps ∧ s.free > 0 ∧ s.free = if s.back then amt has s.p else amt most s.p - amt has s.p := by
  simp only [stepsAt, List.mem_flatMap] at h
  obtain ⟨p, hp, h⟩ := h
  simp only [stepsOf, List.mem_append] at h
  rcases h with h | h
  · split at h
    · rename_i hc
      simp at h; subst h
      exact ⟨by rw [Step.begins_eq]; exact hc.1, hp, hc.2, by simp⟩
    · cases h
  · split at h
    · rename_i hc
      simp at h; subst h
      exact ⟨by rw [Step.begins_eq]; exact hc.1, hp, hc.2, by simp⟩
    · cases h

section
variable {ps : List Pipe} {has most : Pipe → Option Int}
theorem found_spec : Bfs (stepsAt has most ps) [srcS] [srcS] (found ps has most) := bfs_spec (fun x s hs => leads_spots hs) (fuelOf ps) [srcS] [srcS] (Nat.le_refl _)
theorem found_mem {s : Step} (h : s ∈ found ps has most) : s ∈ stepsAt has most ps s.begins := by
  obtain ⟨i, hi, e⟩ := List.mem_iff_getElem.1 h
  obtain ⟨x, _, hx⟩ := found_spec.frm i s (List.getElem?_eq_some_iff.2 ⟨hi, e⟩)
  rw [(steps_begin hx).1]; exact hx
theorem found_frm {i : Nat} {s : Step} (h : (found ps has most)[i]? = some s) : s.begins = srcS ∨ ∃ j s', j < i ∧ (found ps has most)[j]? = some s' ∧ s'.leads = s.begins := by
  obtain ⟨x, hx, hs⟩ := found_spec.frm i s h
  rw [(steps_begin hs).1]
  rcases hx with hx | hx
  · exact .inl (by simpa using hx)
  · exact .inr hx
theorem found_src {s : Step} (h : s ∈ found ps has most) : s.leads ≠ srcS := fun e => found_spec.new s h (by rw [e]; exact List.mem_singleton.2 rfl)
theorem idx_unique {L : List Step} (hn : (L.map Step.leads).Nodup) {i j : Nat} {s t : Step} (hi : L[i]? = some s) (hj : L[j]? = some t) (e : s.leads = t.leads) : i = j := by
  obtain ⟨hi', ei⟩ := List.getElem?_eq_some_iff.1 hi
  obtain ⟨hj', ej⟩ := List.getElem?_eq_some_iff.1 hj
  refine (List.getElem_inj (h₀ := by simpa using hi') (h₁ := by simpa using hj') hn).1 ?_
  simp [ei, ej, e]
theorem snoc_ind {α : Type} {M : List α → Prop} (nil : M []) (snoc : ∀ l x, M l → M (l ++ [x])) (l : List α) : M l := by
  have : ∀ l : List α, M l.reverse := by
    intro l
    induction l with
    | nil => exact nil
    | cons x l ih => rw [List.reverse_cons]; exact snoc _ _ ih
  rw [← List.reverse_reverse l]; exact this _
theorem byOf_spec : ∀ (L : List Step), (L.map Step.leads).Nodup → ∀ t s, byOf L t = some s ↔ s ∈ L ∧ s.leads = t := by
  intro L
  refine snoc_ind (M := fun L => (L.map Step.leads).Nodup → ∀ t s, byOf L t = some s ↔ s ∈ L ∧ s.leads = t) ?_ ?_ L
  · intro _ t s; simp [byOf]
  · intro L x ih hn t s
    rw [List.map_append, List.nodup_append] at hn
    rw [byOf_snoc]
    simp only [updF, List.mem_append, List.mem_singleton]
    by_cases e : t = x.leads
    · subst e
      rw [if_pos rfl]
      constructor
      · intro h; cases h; exact ⟨.inr rfl, rfl⟩
      · rintro ⟨h1 | h1, h2⟩
        · exact absurd h2 (fun e => hn.2.2 _ (List.mem_map.2 ⟨s, h1, rfl⟩) x.leads (by simp) e)
        · rw [h1]
    · rw [if_neg e, ih hn.1]
      constructor
      · rintro ⟨h1, h2⟩; exact ⟨.inl h1, h2⟩
      · rintro ⟨h1 | h1, h2⟩
        · exact ⟨h1, h2⟩
        · subst h1; exact absurd h2.symm e

theorem by_spec {t : Spot} {s : Step} : byOf (found ps has most) t = some s ↔ s ∈ found ps has most ∧ s.leads = t := byOf_spec _ found_spec.nodup t s
theorem by_src : byOf (found ps has most) srcS = none := by
  cases h : byOf (found ps has most) srcS with
  | none => rfl
  | some s => obtain ⟨h1, h2⟩ := by_spec.1 h; exact absurd h2 (found_src h1)
/-- Can more get to a spot? -/
def Reach (ps : List Pipe) (has most : Pipe → Option Int) (t : Spot) : Prop := t = srcS ∨ byOf (found ps has most) t ≠ none
theorem reach_mem {t : Spot} : Reach ps has most t ↔ t = srcS ∨ t ∈ (found ps has most).map Step.leads := by
  unfold Reach
  constructor
  · rintro (h | h)
    · exact .inl h
    · obtain ⟨s, hs⟩ := Option.ne_none_iff_exists'.1 h
      obtain ⟨h1, h2⟩ := by_spec.1 hs
      exact .inr (List.mem_map.2 ⟨s, h1, h2⟩)
  · rintro (h | h)
    · exact .inl h
    · obtain ⟨s, h1, h2⟩ := List.mem_map.1 h
      exact .inr (by rw [by_spec.2 ⟨h1, h2⟩]; simp)
theorem reach_step {x : Spot} (hx : Reach ps has most x) {s : Step} (hs : s ∈ stepsAt has most ps x) : Reach ps has most s.leads := by
  rw [reach_mem] at hx ⊢
  have := found_spec.all x (by
    rcases hx with rfl | hx
    · exact .inl (by simp)
    · exact .inr hx) s hs
  simpa using this
/-- A spot that more can get to, and isn't the source, is led to from such a one. -/
theorem reach_from {t : Spot} (ht : Reach ps has most t) (hn : t ≠ srcS) : ∃ x, Reach ps has most x ∧ ∃ s ∈ stepsAt has most ps x, s.leads = t := by
  rcases ht with h | h
  · exact absurd h hn
  · obtain ⟨s, hs⟩ := Option.ne_none_iff_exists'.1 h
    obtain ⟨h1, h2⟩ := by_spec.1 hs
    obtain ⟨i, hi, e⟩ := List.mem_iff_getElem.1 h1
    refine ⟨s.begins, ?_, s, found_mem h1, h2⟩
    rw [reach_mem]
    rcases found_frm (i := i) (s := s) (List.getElem?_eq_some_iff.2 ⟨hi, e⟩) with h3 | ⟨j, s', _, h4, h5⟩
    · exact .inl h3
    · exact .inr (List.mem_map.2 ⟨s', List.mem_of_getElem? h4, h5⟩)

/-! ### ways -/
inductive WayTo (f : Spot → Option Step) : Spot → List Step → Prop
  | nil : WayTo f srcS []
  | cons {x : Spot} {s : Step} {L : List Step} (hx : x ≠ srcS) (hs : f x = some s) (p : WayTo f s.begins L) : WayTo f x (s :: L)

theorem way_ex : ∀ (i : Nat) (s : Step), (found ps has most)[i]? = some s → ∃ L, WayTo (byOf (found ps has most)) s.leads (s :: L) ∧ (s :: L).length ≤ i + 1 ∧ ((s :: L).map Step.leads).Nodup ∧ ∀ x ∈ s :: L, ∃ j, j ≤ i ∧ (found ps has most)[j]? = some x := by
  intro i
  induction i using Nat.strongRecOn with
  | _ i ih =>
    intro s hs
    have hm := List.mem_of_getElem? hs
    have hby : byOf (found ps has most) s.leads = some s := by_spec.2 ⟨hm, rfl⟩
    rcases found_frm hs with h | ⟨j, s', hj, hs', hl⟩
    · exact ⟨[], .cons (found_src hm) hby (by rw [h]; exact .nil), by simp, by simp, fun x hx => ⟨i, Nat.le_refl _, by simp at hx; rw [hx]; exact hs⟩⟩
    · obtain ⟨L, h1, h2, h3, h4⟩ := ih j hj s' hs'
      refine ⟨s' :: L, .cons (found_src hm) hby (hl ▸ h1), by simp at h2 ⊢; omega, ?_, ?_⟩
      · rw [List.map_cons, List.nodup_cons]
        refine ⟨fun hmm => ?_, h3⟩
        obtain ⟨x, hx, e⟩ := List.mem_map.1 hmm
        obtain ⟨k, hk, hxk⟩ := h4 x hx
        have := idx_unique found_spec.nodup hxk hs e
        omega
      · intro x hx
        rcases List.mem_cons.1 hx with rfl | hx
        · exact ⟨i, Nat.le_refl _, hs⟩
        · obtain ⟨k, hk, hxk⟩ := h4 x hx
          exact ⟨k, by omega, hxk⟩

theorem found_len : (found ps has most).length ≤ 2 * ps.length := by
  have h1 := found_spec (ps := ps) (has := has) (most := most)
  have : ∀ (L : List Step), (L.map Step.leads).Nodup → (∀ s ∈ L, s.leads ∈ spots ps) → L.length ≤ (spots ps).length := by
    intro L hn hs
    have hsub : ∀ t ∈ L.map Step.leads, t ∈ spots ps := fun t ht => by
      obtain ⟨s, h2, rfl⟩ := List.mem_map.1 ht; exact hs s h2
    have key : ∀ (A B : List Spot), A.Nodup → (∀ t ∈ A, t ∈ B) → A.length ≤ B.length := by
      intro A
      induction A with
      | nil => intro B _ _; simp
      | cons a A ih =>
        intro B hn hs
        have hn' := List.nodup_cons.1 hn
        have haB := hs a List.mem_cons_self
        have := ih (B.erase a) hn'.2 (fun t ht => (List.mem_erase_of_ne (show t ≠ a from fun e => hn'.1 (by rw [← e]; exact ht))).2 (hs t (List.mem_cons_of_mem _ ht)))
        rw [List.length_erase_of_mem haB] at this
        have := List.length_pos_of_mem haB
        simp; omega
    have := key _ _ hn hsub
    simpa using this
  have := this _ h1.nodup (fun s hs => leads_spots (found_mem hs))
  refine Nat.le_trans this ?_
  simp [spots]; omega

/-- The end's way: what fill walks. -/
theorem way_end {x : Spot} {s : Step} (h : byOf (found ps has most) x = some s) : ∃ L, WayTo (byOf (found ps has most)) x L ∧ L.length ≤ 2 * ps.length ∧ (L.map Step.leads).Nodup ∧ (∀ s ∈ L, s ∈ found ps has most) ∧ L.head? = some s := by
  obtain ⟨h1, h2⟩ := by_spec.1 h
  obtain ⟨i, hi, e⟩ := List.mem_iff_getElem.1 h1
  obtain ⟨L, k1, k2, k3, k4⟩ := way_ex (ps := ps) (has := has) (most := most) i s (List.getElem?_eq_some_iff.2 ⟨hi, e⟩)
  refine ⟨s :: L, h2 ▸ k1, ?_, k3, fun x hx => ?_, rfl⟩
  · have := found_len (ps := ps) (has := has) (most := most); omega
  · obtain ⟨j, _, hj⟩ := k4 x hx; exact List.mem_of_getElem? hj
/-- No pipe lies twice on a way. -/
theorem way_pipes {L : List Step} (hn : (L.map Step.leads).Nodup) (hL : ∀ s ∈ L, s ∈ found ps has most) : (L.map (·.p)).Nodup := by
  have key : ∀ s ∈ L, ∀ t ∈ L, s.p = t.p → s = t := by
    intro s hs t ht e
    have inj : s.leads = t.leads → s = t := fun e => by
      have a := by_spec.2 ⟨hL s hs, rfl⟩
      have b := by_spec.2 ⟨hL t ht, rfl⟩
      rw [e, b] at a; cases a; rfl
    by_cases hb : s.back = t.back
    · exact inj (by rw [Step.leads_eq, Step.leads_eq, hb, e])
    · exfalso
      have e1 : s.begins = t.leads := by
        rw [Step.begins_eq, Step.leads_eq, e]
        cases h1 : s.back <;> cases h2 : t.back <;> simp_all
      have e2 : t.begins = s.leads := by
        rw [Step.begins_eq, Step.leads_eq, e]
        cases h1 : s.back <;> cases h2 : t.back <;> simp_all
      obtain ⟨i, hi, ei⟩ := List.mem_iff_getElem.1 (hL s hs)
      obtain ⟨j, hj, ej⟩ := List.mem_iff_getElem.1 (hL t ht)
      have hi' : (found ps has most)[i]? = some s := by simp [hi, ei]
      have hj' : (found ps has most)[j]? = some t := by simp [hj, ej]
      have a : j < i := by
        rcases found_frm hi' with h | ⟨k, u, hk, hu, hl⟩
        · rw [e1] at h; exact absurd h (found_src (hL t ht))
        · have := idx_unique found_spec.nodup hu hj' (hl.trans e1); omega
      have b : i < j := by
        rcases found_frm hj' with h | ⟨k, u, hk, hu, hl⟩
        · rw [e2] at h; exact absurd h (found_src (hL s hs))
        · have := idx_unique found_spec.nodup hu hi' (hl.trans e2); omega
      omega
  clear hL
  induction L with
  | nil => simp
  | cons s L ih =>
    rw [List.map_cons, List.nodup_cons] at hn ⊢
    refine ⟨fun hm => ?_, ih hn.2 fun a ha b hb => key a (List.mem_cons_of_mem _ ha) b (List.mem_cons_of_mem _ hb)⟩
    obtain ⟨t, ht, e⟩ := List.mem_map.1 hm
    have := key s List.mem_cons_self t (List.mem_cons_of_mem _ ht) e.symm
    subst this
    exact hn.1 (List.mem_map.2 ⟨s, ht, rfl⟩)
end

/-! ### flows -/
/-- What comes to a spot, less what leaves it. -/
def net (ps : List Pipe) (has : Pipe → Option Int) (t : Spot) : Int := (ps.map fun q => (if q.to = t then amt has q else 0) - (if q.frm = t then amt has q else 0)).sum
structure FlowOk (ps : List Pipe) (has most : Pipe → Option Int) : Prop where
  nodup : ps.Nodup
  rng : ∀ q ∈ ps, 0 ≤ amt has q ∧ amt has q ≤ amt most q
  keep : ∀ t, t ≠ srcS → t ≠ endS → net ps has t = 0
/-- One step of a way takes m more. -/
def aug (m : Int) (has : Pipe → Option Int) (s : Step) : Pipe → Option Int := updF has s.p (if s.back then amt has s.p - m else amt has s.p + m)
def augAll (m : Int) (has : Pipe → Option Int) (L : List Step) : Pipe → Option Int := L.foldl (aug m) has
theorem amt_updF {f : Pipe → Option Int} {p q : Pipe} {v : Int} : amt (updF f p v) q = if q = p then v else amt f q := by
  unfold amt updF; split <;> simp [*]
theorem sum_change {ps : List Pipe} (hn : ps.Nodup) {p : Pipe} (hp : p ∈ ps) (f g : Pipe → Int) (he : ∀ q, q ≠ p → f q = g q) : (ps.map f).sum = (ps.map g).sum + (f p - g p) := by
  induction ps with
  | nil => cases hp
  | cons a ps ih =>
    have hn' := List.nodup_cons.1 hn
    simp only [List.map_cons, List.sum_cons]
    rcases List.mem_cons.1 hp with rfl | hp
    · have : ps.map f = ps.map g := List.map_congr_left fun q hq => he q (fun e => hn'.1 (e ▸ hq))
      rw [this]; omega
    · have := ih hn'.2 hp
      have hne : a ≠ p := fun e => hn'.1 (e ▸ hp)
      rw [this, he a hne]; omega
theorem net_aug {ps : List Pipe} (hn : ps.Nodup) {has : Pipe → Option Int} {s : Step} (hp : s.p ∈ ps) (m : Int) (t : Spot) : net ps (aug m has s) t = net ps has t + ((if s.leads = t then m else 0) - (if s.begins = t then m else 0)) := by
  unfold net
  rw [sum_change hn hp _ (fun q => (if q.to = t then amt has q else 0) - (if q.frm = t then amt has q else 0)) (fun q hq => by simp only [aug, amt_updF, if_neg hq])]
  congr 1
  simp only [aug, amt_updF, if_true]
  rw [Step.leads_eq, Step.begins_eq]
  cases s.back <;> simp <;> (split <;> split <;> omega)
theorem net_way {ps : List Pipe} (hn : ps.Nodup) {f : Spot → Option Step} {x : Spot} {L : List Step} (w : WayTo f x L) (hf : ∀ s ∈ L, s.p ∈ ps) (hl : ∀ y s, f y = some s → s.leads = y) (m : Int) (t : Spot) : ∀ has, net ps (augAll m has L) t = net ps has t + ((if x = t then m else 0) - (if srcS = t then m else 0)) := by
  induction w with
  | nil => intro has; simp [augAll]
  | @cons x s L hx hs p ih =>
    intro has
    have h1 := ih (fun s hs => hf s (List.mem_cons_of_mem _ hs)) (aug m has s)
    simp only [augAll, List.foldl_cons] at h1 ⊢
    rw [h1, net_aug hn (hf s List.mem_cons_self), hl x s hs]
    omega
theorem aug_other {m : Int} {q : Pipe} : ∀ (L : List Step) (has : Pipe → Option Int), q ∉ L.map (·.p) → amt (augAll m has L) q = amt has q
  | [], has, _ => rfl
  | s :: L, has, h => by
    simp only [List.map_cons, List.mem_cons, not_or] at h
    have := aug_other (m := m) L (aug m has s) h.2
    simp only [augAll, List.foldl_cons] at this ⊢
    rw [this, aug, amt_updF, if_neg h.1]
theorem aug_on {m : Int} {s : Step} : ∀ (L : List Step) (has : Pipe → Option Int), (L.map (·.p)).Nodup → s ∈ L → amt (augAll m has L) s.p = if s.back then amt has s.p - m else amt has s.p + m
  | [], has, _, h => by cases h
  | x :: L, has, hn, h => by
    rw [List.map_cons, List.nodup_cons] at hn
    simp only [augAll, List.foldl_cons]
    rcases List.mem_cons.1 h with rfl | h
    · have := aug_other (m := m) L (aug m has s) hn.1
      simp only [augAll] at this
      rw [this, aug, amt_updF, if_pos rfl]
    · have hne : s.p ≠ x.p := fun e => hn.1 (e ▸ List.mem_map.2 ⟨s, h, rfl⟩)
      have := aug_on (m := m) L (aug m has x) hn.2 h
      simp only [augAll] at this
      rw [this, aug, amt_updF, if_neg hne]
theorem aug_bound {m : Int} (hm : 0 ≤ m) {q : Pipe} : ∀ (L : List Step) (has : Pipe → Option Int), amt has q - L.length * m ≤ amt (augAll m has L) q ∧ amt (augAll m has L) q ≤ amt has q + L.length * m
  | [], has => by simp [augAll]
  | s :: L, has => by
    have h1 := aug_bound hm (q := q) L (aug m has s)
    simp only [augAll, List.foldl_cons] at h1 ⊢
    have h2 : amt has q - m ≤ amt (aug m has s) q ∧ amt (aug m has s) q ≤ amt has q + m := by
      rw [aug, amt_updF]
      split
      · rename_i e; subst e
        split <;> omega
      · omega
    have e : ((s :: L).length : Int) * m = L.length * m + m := by
      rw [List.length_cons, Int.natCast_add, Int.add_mul]; simp
    rw [e]; omega
/-- How much the way can still take. -/
def least (L : List Step) (m : Int) : Int := L.foldl (fun a s => min a s.free) m
theorem least_le : ∀ (L : List Step) (m : Int), least L m ≤ m ∧ ∀ s ∈ L, least L m ≤ s.free
  | [], m => by simp [least]
  | x :: L, m => by
    obtain ⟨h1, h2⟩ := least_le L (min m x.free)
    simp only [least, List.foldl_cons] at h1 h2 ⊢
    refine ⟨by omega, fun s hs => ?_⟩
    rcases List.mem_cons.1 hs with rfl | hs
    · omega
    · exact h2 s hs
theorem least_ge {b : Int} : ∀ (L : List Step) (m : Int), b ≤ m → (∀ s ∈ L, b ≤ s.free) → b ≤ least L m
  | [], m, h, _ => h
  | x :: L, m, h, hs => by
    simp only [least, List.foldl_cons]
    exact least_ge L _ (by have := hs x List.mem_cons_self; omega) fun s h => hs s (List.mem_cons_of_mem _ h)

section
variable {ps : List Pipe} {has most : Pipe → Option Int}
theorem flow_aug (f : FlowOk ps has most) {L : List Step} (w : WayTo (byOf (found ps has most)) endS L) (hn : (L.map Step.leads).Nodup) (hL : ∀ s ∈ L, s ∈ found ps has most) {m : Int} (hm0 : 0 ≤ m) (hm : ∀ s ∈ L, m ≤ s.free) :
    FlowOk ps (augAll m has L) most ∧ net ps (augAll m has L) srcS = net ps has srcS - m := by
  have hps : ∀ s ∈ L, s.p ∈ ps := fun s hs => (steps_begin (found_mem (hL s hs))).2.1
  have hl : ∀ y s, byOf (found ps has most) y = some s → s.leads = y := fun y s h => (by_spec.1 h).2
  have hnet := net_way f.nodup w hps hl m
  refine ⟨⟨f.nodup, fun q hq => ?_, fun t h1 h2 => ?_⟩, ?_⟩
  · by_cases hql : q ∈ L.map (·.p)
    · obtain ⟨s, hs, rfl⟩ := List.mem_map.1 hql
      rw [aug_on L has (way_pipes hn hL) hs]
      have := f.rng _ hq
      have h3 := (steps_begin (found_mem (hL s hs))).2.2.2
      have h4 := hm s hs
      rw [h3] at h4
      cases hb : s.back <;> simp only [hb, if_true, if_false, Bool.false_eq_true] at h4 ⊢ <;> omega
    · rw [aug_other L has hql]; exact f.rng q hq
  · rw [hnet, f.keep t h1 h2, if_neg (Ne.symm h2), if_neg (Ne.symm h1)]; rfl
  · rw [hnet, if_neg (by decide), if_pos rfl]; omega
/-- The source cannot give more than its pipes may hold. -/
def capS (ps : List Pipe) (most : Pipe → Option Int) : Int := (ps.map fun q => if q.frm = srcS then amt most q else 0).sum
theorem sum_le {ps : List Pipe} {f g : Pipe → Int} (h : ∀ q ∈ ps, f q ≤ g q) : (ps.map f).sum ≤ (ps.map g).sum := by
  induction ps with
  | nil => simp
  | cons a ps ih =>
    simp only [List.map_cons, List.sum_cons]
    have := h a List.mem_cons_self
    have := ih fun q hq => h q (List.mem_cons_of_mem _ hq)
    omega
theorem sum_neg {ps : List Pipe} {f : Pipe → Int} : (ps.map fun q => - f q).sum = - (ps.map f).sum := by
  induction ps with
  | nil => rfl
  | cons a ps ih => simp only [List.map_cons, List.sum_cons, ih]; omega
theorem net_cap (f : FlowOk ps has most) : - net ps has srcS ≤ capS ps most := by
  unfold net capS
  rw [← sum_neg]
  refine sum_le fun q hq => ?_
  have := f.rng q hq
  split <;> split <;> omega
end
end Go.Proofs.YtankmjkogcbnfaaDoor
