/-
  fix.Holds on good nets.
-/
import Derived.Test.YtankmjkogcbnfaaDoorGh
namespace Go.Proofs.YtankmjkogcbnfaaDoor
open Go Go.SL Go.Conc
/-- Without what is known of block b. -/
def _root_.Go.SL.LH.del (h : LH) (b : Nat) : LH := { get := fun x => if x = b then none else h.get x, own := h.own, gh := h.gh }
instance domDel {h : LH} {b c : Nat} [n : NeB c b] [d : DomC h c] : DomC (h.del b) c := ⟨by have := d.out; simp only [LH.del, if_neg n.out]; exact this⟩
theorem del_none {h : LH} {b : Nat} : (h.del b).get b = none := by simp [LH.del]
theorem Kept.old {h0 h1 h : LH} {b q : Nat} {o : Obj} (k : Kept (h0.del q) h1 h) (hf : h0.get b = none) (g : HG h1 b o) : HG h b o := k.get b o (by simp only [LH.del]; split <;> simp [hf]) g
theorem Kept.delG {h0 h1 h : LH} {b : Nat} {o : Obj} (k : Kept (h0.del b) h1 h) [g : HGC h1 b o] : HGC h b o := ⟨k.get b o del_none g.out⟩
theorem Kept.delO {h0 h1 h : LH} {b : Nat} (k : Kept (h0.del b) h1 h) [g : OwnC h1 b] : OwnC h b := ⟨k.own b del_none g.out⟩
attribute [local irreducible] putE ofL Look Nth Ev HG Own SubL Wr Sgl EvL LH.upd WL OpS Any Con PopW Pop
theorem c122 {h : LH} {r : Nat} {t : Int} {a b : Bool} : Con Tryd.prog 122 [.map (some r), .agg (List.toArray [.int .i64 t, .bool a, .bool b])] h (fun v h' => ∃ qa qm, v = .func (.func 182) #[] (List.toArray [.pointer (some ⟨qa, 0, none⟩), .pointer (some ⟨qm, 0, none⟩)]) ∧ FreshAt h qa ∧ FreshAt h qm ∧ NeB qa qm ∧ Ext h h' ∧
    HGC h' qa (.cells (List.toArray [.int .i64 t, .bool a, .bool b]) 206 (0, 0)) ∧ OwnC h' qa ∧ HGC h' qm (.cells (List.toArray [.map (some r)]) 200 (0, 0))) := by
  refine Con.intro (m := 2) Tryd.func122 rfl Tryd.ntmps122 rfl (by decide) ?_
  intro main S hS c cs hc
  repeat (first | refine hS.seq ?_ | refine hS.regionW ?_ | refine W.pop ?_ | refine W.yes ?_ | refine W.no ?_ | refine W.box (fun _ _ => ?_) | refine W.alloc (fun _ _ => ?_) | refine W.store ?_ | refine W.bs (fun _ _ => ?_) | refine W.fn hS (fun _ _ => ?_) | refine WL.nil ?_ | refine R.condT hS ?_ | refine R.condF hS ?_ | refine hS.skip ?_ | refine hS.block ?_ | refine hS.inBlock ?_ | refine R.ret hS ?_ | refine R.fin hS ?_ | refine R.begin hS ?_ | refine R.endRound hS ?_ | refine R.retRound hS ?_ | refine R.retC hS ?_ | refine R.endRangeDone hS ?_ | refine R.endRangeRet hS ?_)
  rename_i q2 f2 q3 f3
  have f3' : FreshAt h q3 := ⟨(inferInstance : Fresh0 h q3).out⟩
  exact hc _ _ ⟨q3, q2, rfl, f3', f2, inferInstance, Ext0.out, inferInstance, inferInstance, inferInstance⟩

theorem it182 {main : Bool} {S : LH → Goroutine → Prop} (hS : Regime Tryd.prog main S) {f : Spot → Option Step} {x : Spot} {L : List Step} (w : WayTo f x L) {rb qa qm lp r : Nat} {fnx : FuncId} {tmps : Array Value} {j : Tmp} {assign body : Code}
    (Inv : Nat → LH → Prop) {hs : LH} (c0 : Frame) (cs : List Frame) (hext : ∀ i h h', Inv i h → Ext h h' → Inv i h') (hupd : ∀ i h c, Inv i h → Inv i (h.upd qa (.cells c 206 (0, 0))))
    (hkn : ∀ i h, Inv i h → HGC h qm (.cells (List.toArray [.map (some rb)]) 200 (0, 0)) ∧ (∃ es cl, HGC h rb (.map es cl) ∧ MiC spotK stepV es cl f) ∧ HGC h 0 (.cells (List.toArray [.int .i64 (-1), .bool false, .bool false]) 206 (0, 0)) ∧ HGC h lp (.loop (lpr .ready none fnx tmps #[j] assign body r)))
    (hyield : ∀ (i : Nat) (s : Step), L[i]? = some s → ∀ h' h1, Inv i h' → Ext h' h1 → ∀ c, (∀ h'', Inv (i + 1) h'' → Kept (h'.del qa) h1 h'' → S h'' (G (c.finish (.bool true)) (c0 :: cs))) → S h1 (G (Frame.round lp fnx (tmps.setIfInBounds j (stepV s)) assign body .normal) (c :: c0 :: cs)))
    (hdone : ∀ h', Inv L.length h' → S h' (G (c0.finish (.tuple #[])) cs)) (h0 : Inv 0 hs) (ga : HG hs qa (.cells (List.toArray [.int .i64 x.t, .bool x.a, .bool x.b]) 206 (0, 0))) (oa : Own hs qa) :
    S hs (G (Frame.enter Tryd.prog 182 (.func (.yield lp) #[] #[] :: [.pointer (some ⟨qa, 0, none⟩), .pointer (some ⟨qm, 0, none⟩)]).toArray .normal) (c0 :: cs)) := by
  rw [enter_eq Tryd.func182 rfl (by show 3 ≤ _; decide), Tryd.ntmps182]
  have tnt : IsC (!true) false := ⟨rfl⟩
  repeat (first | refine hS.seq ?_ | refine hS.regionW ?_ | refine W.pop ?_ | refine W.yes ?_ | refine W.no ?_ | refine W.box (fun _ _ => ?_) | refine W.alloc (fun _ _ => ?_) | refine W.store ?_ | refine W.bs (fun _ _ => ?_) | refine W.fn hS (fun _ _ => ?_) | refine WL.nil ?_ | refine R.condT hS ?_ | refine R.condF hS ?_ | refine hS.skip ?_ | refine hS.block ?_ | refine hS.inBlock ?_ | refine R.ret hS ?_ | refine R.fin hS ?_ | refine R.begin hS ?_ | refine R.endRound hS ?_ | refine R.retRound hS ?_ | refine R.retC hS ?_ | refine R.endRangeDone hS ?_ | refine R.endRangeRet hS ?_)
  refine hS.loop ?_
  -- the spot, and the steps still to come
  refine loop_ind (fun (a : Nat × Spot) => L.length - a.1) (fun a E h' => a.1 ≤ L.length ∧ WayTo f a.2 (L.drop a.1) ∧ LookC E 0 (.func (.yield lp) #[] #[]) ∧ LookC E 1 (.pointer (some ⟨qa, 0, none⟩)) ∧ LookC E 2 (.pointer (some ⟨qm, 0, none⟩)) ∧ Inv a.1 h' ∧ HGC h' qa (.cells (List.toArray [.int .i64 a.2.t, .bool a.2.a, .bool a.2.b]) 206 (0, 0)) ∧ OwnC h' qa) ?_ (0, x) _ _ ⟨Nat.zero_le _, by simpa using w, inferInstance, inferInstance, inferInstance, h0, ⟨ga⟩, ⟨oa⟩⟩
  rintro ⟨i, y⟩ E h' ⟨hi, hw, l0, l1, l2, hq, gq, oq⟩ ih
  dsimp only at hi hw hq gq ih
  obtain ⟨k1, ⟨es, cl, k2, k3⟩, k4, k5⟩ := hkn _ h' hq
  generalize hrest : L.drop i = rest at hw
  cases hw with
  | nil =>
    have t1 : IsC (!decide ((⟨srcS.t, srcS.a, srcS.b⟩ : Spot) = ⟨-1, false, false⟩)) false := ⟨rfl⟩
    repeat (first | refine hS.seq ?_ | refine hS.regionW ?_ | refine W.pop ?_ | refine W.yes ?_ | refine W.no ?_ | refine W.box (fun _ _ => ?_) | refine W.alloc (fun _ _ => ?_) | refine W.store ?_ | refine W.bs (fun _ _ => ?_) | refine W.fn hS (fun _ _ => ?_) | refine WL.nil ?_ | refine R.condT hS ?_ | refine R.condF hS ?_ | refine hS.skip ?_ | refine hS.block ?_ | refine hS.inBlock ?_ | refine R.ret hS ?_ | refine R.fin hS ?_ | refine R.begin hS ?_ | refine R.endRound hS ?_ | refine R.retRound hS ?_ | refine R.retC hS ?_ | refine R.endRangeDone hS ?_ | refine R.endRangeRet hS ?_)
    refine hS.exit rfl ?_
    repeat (first | refine hS.seq ?_ | refine hS.regionW ?_ | refine W.pop ?_ | refine W.yes ?_ | refine W.no ?_ | refine W.box (fun _ _ => ?_) | refine W.alloc (fun _ _ => ?_) | refine W.store ?_ | refine W.bs (fun _ _ => ?_) | refine W.fn hS (fun _ _ => ?_) | refine WL.nil ?_ | refine R.condT hS ?_ | refine R.condF hS ?_ | refine hS.skip ?_ | refine hS.block ?_ | refine hS.inBlock ?_ | refine R.ret hS ?_ | refine R.fin hS ?_ | refine R.begin hS ?_ | refine R.endRound hS ?_ | refine R.retRound hS ?_ | refine R.retC hS ?_ | refine R.endRangeDone hS ?_ | refine R.endRangeRet hS ?_)
    have e : i = L.length := by
      have := congrArg List.length hrest
      simp at this; omega
    subst e
    exact hdone _ hq
  | @cons _ s rest hx hs p =>
    have t1 : IsC (!decide ((⟨y.t, y.a, y.b⟩ : Spot) = ⟨-1, false, false⟩)) true := ⟨by simp only [Bool.not_eq_true', decide_eq_false_iff_not]; exact hx⟩
    have hlt : i < L.length := by
      have := congrArg List.length hrest
      simp at this; omega
    have hLi : L[i]? = some s := by
      have := congrArg (·[0]?) hrest
      simpa using this
    have hdr : L.drop (i + 1) = rest := by
      rw [← List.drop_drop] at *
      have := congrArg (List.drop 1) hrest
      simpa using this
    have efy : (f ⟨y.t, y.a, y.b⟩).getD step0 = s := by show (f y).getD step0 = s; rw [hs]; rfl
    repeat (first | refine hS.seq ?_ | refine hS.regionW ?_ | refine W.pop ?_ | refine W.yes ?_ | refine W.no ?_ | refine W.box (fun _ _ => ?_) | refine W.alloc (fun _ _ => ?_) | refine W.store ?_ | refine W.bs (fun _ _ => ?_) | refine W.fn hS (fun _ _ => ?_) | refine WL.nil ?_ | refine R.condT hS ?_ | refine R.condF hS ?_ | refine hS.skip ?_ | refine hS.block ?_ | refine hS.inBlock ?_ | refine R.ret hS ?_ | refine R.fin hS ?_ | refine R.begin hS ?_ | refine R.endRound hS ?_ | refine R.retRound hS ?_ | refine R.retC hS ?_ | refine R.endRangeDone hS ?_ | refine R.endRangeRet hS ?_)
    rename_i q4 f4
    rw [efy]
    refine W.yield1 (R := fun r h'' => r = .bool true ∧ Inv (i + 1) h'' ∧ HGC h'' qa (.cells (List.toArray [.int .i64 y.t, .bool y.a, .bool y.b]) 206 (0, 0)) ∧ OwnC h'' qa ∧ HGC h'' q4 (.cells (List.toArray [.int .i64 s.p.frm.t, .bool s.p.frm.a, .bool s.p.frm.b, .int .i64 s.p.to.t, .bool s.p.to.a, .bool s.p.to.b, .int .i64 s.p.tie, .bool s.back, .int .i64 s.free]) 214 (0, 0)))
      (fun c hcc => hyield i s hLi h' _ hq (Ext0.out (h₀ := h')) c (fun h'' q kp => hcc _ _ ⟨rfl, q, kp.delG, kp.delO, ⟨kp.old f4.out HGC.out⟩⟩)) (fun r h3 hr => ?_)
    obtain ⟨rfl, hq3, g3, o3, g43⟩ := hr
    have d1 : DomC h' qa := inferInstance
    have n1 : NeB qa q4 := inferInstance
    have n2 : NeB q4 qa := inferInstance
    repeat (first | refine hS.seq ?_ | refine hS.regionW ?_ | refine W.pop ?_ | refine W.yes ?_ | refine W.no ?_ | refine W.box (fun _ _ => ?_) | refine W.alloc (fun _ _ => ?_) | refine W.store ?_ | refine W.bs (fun _ _ => ?_) | refine W.fn hS (fun _ _ => ?_) | refine WL.nil ?_ | refine R.condT hS ?_ | refine R.condF hS ?_ | refine hS.skip ?_ | refine hS.block ?_ | refine hS.inBlock ?_ | refine R.ret hS ?_ | refine R.fin hS ?_ | refine R.begin hS ?_ | refine R.endRound hS ?_ | refine R.retRound hS ?_ | refine R.retC hS ?_ | refine R.endRangeDone hS ?_ | refine R.endRangeRet hS ?_)
    refine hS.inLoop ?_
    refine ih (i + 1, s.begins) _ _ (by dsimp only; omega) ⟨hlt, by rw [hdr]; exact p, inferInstance, inferInstance, inferInstance, hupd _ _ _ (hext _ _ _ hq3 (Ext0.out (h₀ := h3))), inferInstance, inferInstance⟩
end Go.Proofs.YtankmjkogcbnfaaDoor
/-
  fix.fill: as much as may be.
-/
namespace Go.Proofs.YtankmjkogcbnfaaDoor
open Go Go.SL Go.Conc
/-- What fill's variables hold. -/
structure FlI (h0 h h' : LH) (q1 p rh rm : Nat) (sl : Value) (ps : List Pipe) (has most : Pipe → Option Int) (ds : List Deferred) : Prop where
  g1 : HG h' q1 (.cells (List.toArray [.pointer (some ⟨p, 0, none⟩)]) 198 (0, 0))
  fl : FlowAt h0 h' p sl rh rm ps has most
  fr : ∀ b o, h.get b = some o → b ≠ rh → h'.get b = some o
  ow : ∀ b, h.own b → h'.own b
  gh : h'.gh = []
  ex : Ext h0 h'
  mks : Marks h h' [] ds
theorem FlI.ext' {h0 h h' h2 : LH} {q1 p rh rm : Nat} {sl : Value} {ps : List Pipe} {has most : Pipe → Option Int} {ds : List Deferred} (k : FlI h0 h h' q1 p rh rm sl ps has most ds) (x : Ext h' h2) : FlI h0 h h2 q1 p rh rm sl ps has most ds :=
  ⟨k.g1.ext x, k.fl.ext x, fun b o hb hn => x.get b o (k.fr b o hb hn), fun b hb => x.own b (k.ow b hb), x.gh.trans k.gh, k.ex.trans x, k.mks.ext x⟩
/-- A block that is no part of the flow. -/
structure Out1 (h : LH) (q1 p rh rm : Nat) (sl : Value) (c : Nat) : Prop where
  f : h.get c = none
  n1 : q1 ≠ c
  np : p ≠ c
  nh : rh ≠ c
  nm : rm ≠ c
  ns : blkOf sl ≠ some c
theorem FlI.upd {h0 h h' : LH} {q1 p rh rm : Nat} {sl : Value} {ps : List Pipe} {has most : Pipe → Option Int} {ds : List Deferred} (k : FlI h0 h h' q1 p rh rm sl ps has most ds) (x0 : Ext h0 h) {c : Nat} {o o' : Obj} (n : Out1 h q1 p rh rm sl c) (g : HG h' c o') (nd : o' ≠ .deferred (some [])) : FlI h0 h (h'.upd c o) q1 p rh rm sl ps has most ds :=
  ⟨k.g1.ne n.n1, k.fl.upd n.np n.ns n.nh n.nm, fun b y hb hn => by
    have := k.fr b y hb hn
    have hne : b ≠ c := fun e => by subst e; rw [n.f] at hb; cases hb
    simp only [LH.upd, if_neg hne]; exact this, fun b hb => .inl (k.ow b hb), k.gh, Ext.upd' k.ex (fresh_of n.f x0), k.mks.upd fun e => nd (Option.some.inj (g.symm.trans e))⟩
theorem FlI.out {h0 h h' : LH} {q1 p rh rm : Nat} {sl : Value} {ps : List Pipe} {has most : Pipe → Option Int} {ds : List Deferred} (k : FlI h0 h h' q1 p rh rm sl ps has most ds) {c : Nat} (hc : h'.get c = none) : Out1 h q1 p rh rm sl c := by
  obtain ⟨eh, ch, kh1, kh2⟩ := k.fl.hh
  obtain ⟨em, cm, km1, km2⟩ := k.fl.hm
  have h1 := ne_of_none kh1 hc
  refine ⟨?_, ne_of_none k.g1 hc, ne_of_none k.fl.hp hc, h1, ne_of_none km1 hc, fun e => k.fl.w.dom e hc⟩
  cases hg : h.get c with
  | none => rfl
  | some o =>
    by_cases e : c = rh
    · exact absurd e.symm h1
    · rw [k.fr c o hg e] at hc; cases hc
/-- The flow's map, anew. -/
theorem FlI.updh {h0 h h' : LH} {q1 p rh rm : Nat} {sl : Value} {ps : List Pipe} {has has' most : Pipe → Option Int} {ds : List Deferred} (k : FlI h0 h h' q1 p rh rm sl ps has most ds) {es : Array MapEntry} {cl : Nat} (m : MapI pipeK intK es cl has') : FlI h0 h (h'.upd rh (.map es cl)) q1 p rh rm sl ps has' most ds := by
  obtain ⟨eh, ch, kh1, kh2⟩ := k.fl.hh
  obtain ⟨em, cm, km1, km2⟩ := k.fl.hm
  have np := k.fl.nph
  have n1 : q1 ≠ rh := by
    rintro rfl
    have := k.g1
    simp only [HG] at this kh1
    rw [this] at kh1; cases kh1
  exact ⟨k.g1.ne n1, ⟨k.fl.hp.ne np.1, k.fl.op.miss, k.fl.w.ne (slw_map k.fl.w kh1), k.fl.nb, ⟨es, cl, HG.hit, m⟩, Own.hit, ⟨em, cm, km1.ne (Ne.symm k.fl.ne), km2⟩, k.fl.om.miss, k.fl.ne, k.fl.new⟩, fun b y hb hn => by
    simp only [LH.upd, if_neg hn]; exact k.fr b y hb hn, fun b hb => .inl (k.ow b hb), k.gh, Ext.upd' k.ex k.fl.new.2.2.1, k.mks.upd fun e => by simp only [HG] at e kh1; rw [kh1] at e; cases e⟩
theorem FlI.push {h0 h h' h2 : LH} {q1 p rh rm : Nat} {sl : Value} {ps : List Pipe} {has most : Pipe → Option Int} {ds : List Deferred} (k : FlI h0 h h' q1 p rh rm sl ps has most ds) (x : Ext h' h2) {r : Nat} (fr : h'.get r = none) (hg : HG h2 r (.deferred (some []))) (ho : Own h2 r) : FlI h0 h h2 q1 p rh rm sl ps has most ({ target := .collected r, args := #[] } :: ds) :=
  { k.ext' x with mks := k.mks.push x fr hg ho (k.out fr).f }
/-- Within a range over a way. -/
structure RgI (h0 h : LH) (q1 p rh rm : Nat) (sl : Value) (ps : List Pipe) (has most : Pipe → Option Int) (ds : List Deferred) (lp qa qm q6 rb : Nat) (lo mb : Obj) (m : Int) (h' : LH) : Prop where
  k : FlI h0 h h' q1 p rh rm sl ps has most ds
  gl : HG h' lp lo
  ol : Own h' lp
  gq : ∃ c, HG h' qa (.cells c 206 (0, 0))
  gm : HG h' qm (.cells (List.toArray [.map (some rb)]) 200 (0, 0))
  g6 : HG h' q6 (.cells (List.toArray [.int .i64 m]) 3 (0, 0))
  o6 : Own h' q6
  gb : HG h' rb mb
theorem RgI.ext' {h0 h : LH} {q1 p rh rm : Nat} {sl : Value} {ps : List Pipe} {has most : Pipe → Option Int} {ds : List Deferred} {lp qa qm q6 rb : Nat} {lo mb : Obj} {m : Int} {h' h2 : LH} (k : RgI h0 h q1 p rh rm sl ps has most ds lp qa qm q6 rb lo mb m h') (x : Ext h' h2) : RgI h0 h q1 p rh rm sl ps has most ds lp qa qm q6 rb lo mb m h2 := by
  obtain ⟨c, hq⟩ := k.gq
  exact ⟨k.k.ext' x, k.gl.ext x, k.ol.ext x, ⟨c, hq.ext x⟩, k.gm.ext x, k.g6.ext x, k.o6.ext x, k.gb.ext x⟩
/-- Which blocks differ. -/
structure Sep (lp qa qm q6 rb : Nat) : Prop where
  la : lp ≠ qa
  lm : lp ≠ qm
  l6 : lp ≠ q6
  lb : lp ≠ rb
  am : qa ≠ qm
  a6 : qa ≠ q6
  ab : qa ≠ rb
  m6 : qm ≠ q6
  b6 : rb ≠ q6
theorem RgI.updq {h0 h : LH} {q1 p rh rm : Nat} {sl : Value} {ps : List Pipe} {has most : Pipe → Option Int} {ds : List Deferred} {lp qa qm q6 rb : Nat} {lo mb : Obj} {m : Int} {h' : LH} (k : RgI h0 h q1 p rh rm sl ps has most ds lp qa qm q6 rb lo mb m h') (x0 : Ext h0 h) (n : Out1 h q1 p rh rm sl qa) (s : Sep lp qa qm q6 rb) (c : Array Value) : RgI h0 h q1 p rh rm sl ps has most ds lp qa qm q6 rb lo mb m (h'.upd qa (.cells c 206 (0, 0))) := by
  obtain ⟨c', hq⟩ := k.gq
  exact ⟨k.k.upd x0 n hq (by simp), k.gl.ne s.la, k.ol.miss, ⟨c, HG.hit⟩, k.gm.ne (Ne.symm s.am), k.g6.ne (Ne.symm s.a6), k.o6.miss, k.gb.ne (Ne.symm s.ab)⟩
theorem RgI.updl {h0 h : LH} {q1 p rh rm : Nat} {sl : Value} {ps : List Pipe} {has most : Pipe → Option Int} {ds : List Deferred} {lp qa qm q6 rb : Nat} {l : Loop} {lo' mb : Obj} {m : Int} {h' : LH} (k : RgI h0 h q1 p rh rm sl ps has most ds lp qa qm q6 rb (.loop l) mb m h') (x0 : Ext h0 h) (n : Out1 h q1 p rh rm sl lp) (s : Sep lp qa qm q6 rb) : RgI h0 h q1 p rh rm sl ps has most ds lp qa qm q6 rb lo' mb m (h'.upd lp lo') := by
  obtain ⟨c', hq⟩ := k.gq
  exact ⟨k.k.upd x0 n k.gl (by simp), HG.hit, Own.hit, ⟨c', hq.ne (Ne.symm s.la)⟩, k.gm.ne (Ne.symm s.lm), k.g6.ne (Ne.symm s.l6), k.o6.miss, k.gb.ne (Ne.symm s.lb)⟩
theorem RgI.upd6 {h0 h : LH} {q1 p rh rm : Nat} {sl : Value} {ps : List Pipe} {has most : Pipe → Option Int} {ds : List Deferred} {lp qa qm q6 rb : Nat} {lo mb : Obj} {m m' : Int} {h' : LH} (k : RgI h0 h q1 p rh rm sl ps has most ds lp qa qm q6 rb lo mb m h') (x0 : Ext h0 h) (n : Out1 h q1 p rh rm sl q6) (s : Sep lp qa qm q6 rb) : RgI h0 h q1 p rh rm sl ps has most ds lp qa qm q6 rb lo mb m' (h'.upd q6 (.cells (List.toArray [.int .i64 m']) 3 (0, 0))) := by
  obtain ⟨c', hq⟩ := k.gq
  exact ⟨k.k.upd x0 n k.g6 (by simp), k.gl.ne s.l6, k.ol.miss, ⟨c', hq.ne s.a6⟩, k.gm.ne s.m6, HG.hit, Own.hit, k.gb.ne s.b6⟩
theorem RgI.updh {h0 h : LH} {q1 p rh rm : Nat} {sl : Value} {ps : List Pipe} {has has' most : Pipe → Option Int} {ds : List Deferred} {lp qa qm q6 rb : Nat} {l : Loop} {eb : Array MapEntry} {cb : Nat} {m : Int} {h' : LH} (k : RgI h0 h q1 p rh rm sl ps has most ds lp qa qm q6 rb (.loop l) (.map eb cb) m h') (hrb : rb ≠ rh) {es : Array MapEntry} {cl : Nat} (mm : MapI pipeK intK es cl has') : RgI h0 h q1 p rh rm sl ps has' most ds lp qa qm q6 rb (.loop l) (.map eb cb) m (h'.upd rh (.map es cl)) := by
  obtain ⟨c', hq⟩ := k.gq
  obtain ⟨eh, ch, kh1, kh2⟩ := k.k.fl.hh
  have ne : ∀ b o, HG h' b o → (∀ e c, o ≠ .map e c) → b ≠ rh := fun b o hb hn e => by
    subst e; simp only [HG] at hb kh1; rw [hb] at kh1; cases kh1; exact hn _ _ rfl
  exact ⟨k.k.updh mm, k.gl.ne (ne _ _ k.gl (by simp)), k.ol.miss, ⟨c', hq.ne (ne _ _ hq (by simp))⟩, k.gm.ne (ne _ _ k.gm (by simp)), k.g6.ne (ne _ _ k.g6 (by simp)), k.o6.miss, k.gb.ne hrb⟩
theorem hg_inj {h : LH} {b : Nat} {o o' : Obj} (x : HG h b o) (y : HG h b o') : o = o' := Option.some.inj (x.symm.trans y)
theorem fl_fr {h h' : LH} (x : Ext h h') {b : Nat} {o : Obj} (hb : h.get b = some o) : h'.get b = some o := x.get b o hb
theorem fl_ow {h h' : LH} (x : Ext h h') {b : Nat} (hb : h.own b) : h'.own b := x.own b hb
theorem fl_hg {h h' : LH} {rh b : Nat} {o : Obj} (x : ∀ b o, h.get b = some o → b ≠ rh → h'.get b = some o) (g : HG h b o) (n : b ≠ rh) : HG h' b o := x b o g n
theorem FlI.outE {h0 h h' hx : LH} {q1 p rh rm : Nat} {sl : Value} {ps : List Pipe} {has most : Pipe → Option Int} {ds : List Deferred} (k : FlI h0 h h' q1 p rh rm sl ps has most ds) {c : Nat} [f : FreshAt hx c] [e : Ext0 h' hx] : Out1 h q1 p rh rm sl c := (k.ext' e.out).out f.out
theorem slw_tk {h0 h h' : LH} {sz : Nat} {v : Value} {xs : List (List Value)} (w : SlW h sz v xs) (t : Taken h0 h h') : SlW h' sz v xs := by
  obtain ⟨hl, h1 | ⟨b, off, cap, c, e, h1, h2, h3, h4, h5, h6⟩⟩ := w
  · exact ⟨hl, .inl h1⟩
  · exact ⟨hl, .inr ⟨b, off, cap, c, e, h1, h2, t.own _ h3, t.get _ _ h4 (by simp), h5, h6⟩⟩
theorem flow_tk {h0 h hb h' : LH} {p : Nat} {sl : Value} {rh rm : Nat} {ps : List Pipe} {has most : Pipe → Option Int} (f : FlowAt h0 h p sl rh rm ps has most) (t : Taken hb h h') : FlowAt h0 h' p sl rh rm ps has most := by
  obtain ⟨es, c, h1, h2⟩ := f.hh
  obtain ⟨es', c', h3, h4⟩ := f.hm
  exact ⟨t.get _ _ f.hp (by simp), t.own _ f.op, slw_tk f.w t, f.nb, ⟨es, c, t.get _ _ h1 (by simp), h2⟩, t.own _ f.oh, ⟨es', c', t.get _ _ h3 (by simp), h4⟩, t.own _ f.om, f.ne, f.new⟩
theorem tk_hg {h0 h h' : LH} {b : Nat} {o : Obj} (t : Taken h0 h h') (g : HG h b o) [n : NdC o] : HG h' b o := t.get _ _ g n.out
theorem tk_old {h0 h h' : LH} {b : Nat} {o o' : Obj} (t : Taken h0 h h') (g : HG h b o) (n : HG h0 b o') : HG h' b o := t.old _ _ g (by simp only [HG] at n; rw [n]; simp)
theorem tk_ow {h0 h h' : LH} {b : Nat} (t : Taken h0 h h') (g : Own h b) : Own h' b := t.own _ g
theorem tk_ext {h0 hb h h' : LH} (t : Taken hb h h') (x : Ext h0 h) (y : Ext h0 hb) : Ext h0 h' :=
  ⟨fun b o ho => t.old b o (x.get b o ho) (by rw [y.get b o ho]; simp), fun b ho => t.own b (x.own b ho), t.gh.trans x.gh⟩
theorem own_of {h h' : LH} (x : ∀ b, h.own b → h'.own b) {b : Nat} (ho : Own h b) : Own h' b := x b ho
theorem dom_of {h : LH} {b : Nat} {o : Obj} (g : HG h b o) : DomC h b := ⟨by simp only [HG] at g; rw [g]; simp⟩
theorem least_snoc {L : List Step} {i : Nat} {s : Step} {m : Int} (h : L[i]? = some s) : least (L.take (i + 1)) m = min (least (L.take i) m) s.free := by
  have hi := (List.getElem?_eq_some_iff.1 h).1
  have he := (List.getElem?_eq_some_iff.1 h).2
  unfold least
  rw [List.take_succ_eq_append_getElem hi, List.foldl_append, he]; rfl
theorem augAll_snoc {L : List Step} {i : Nat} {s : Step} {m : Int} {has : Pipe → Option Int} (h : L[i]? = some s) : augAll m has (L.take (i + 1)) = aug m (augAll m has (L.take i)) s := by
  have hi := (List.getElem?_eq_some_iff.1 h).1
  have he := (List.getElem?_eq_some_iff.1 h).2
  unfold augAll
  rw [List.take_succ_eq_append_getElem hi, List.foldl_append, he]; rfl
theorem updF_at {f : Pipe → Option Int} {p : Pipe} {a : Int} : updF f p a p = some a := by simp [updF]
theorem updF_updF {f : Pipe → Option Int} {p : Pipe} {a b : Int} : updF (updF f p a) p b = updF f p b := by
  funext q; simp only [updF]; split <;> rfl
theorem ext_tk {hb h h' h3 : LH} (_ : Taken hb h h3) [e : Ext0 h' h] : Ext h' h := e.out
theorem hg_tk {hb h h3 : LH} {b : Nat} {o : Obj} (_ : Taken hb h h3) [e : HGC h b o] : HGC h b o := e
theorem ow_tk {hb h h3 : LH} {b : Nat} (_ : Taken hb h h3) [e : OwnC h b] : OwnC h b := e
theorem ext_at {h' hx : LH} {c : Nat} (_ : FreshAt hx c) [e : Ext0 h' hx] : Ext h' hx := e.out
attribute [local irreducible] putE ofL Look Nth Ev HG Own SubL Wr Sgl EvL LH.upd WL OpS Any Con PopW Pop
theorem c82 {h0 h : LH} {p rh rm : Nat} {sl : Value} {ps : List Pipe} {has most : Pipe → Option Int} (hgh : h.gh = []) (f : FlowAt h0 h p sl rh rm ps has most) (x0 : Ext h0 h) (fo : FlowOk ps has most) (hb : ∀ q ∈ ps, amt most q ≤ 1000000000000000) (hn : ps.length ≤ 1000)
    (g0 : HG h 0 (.cells (List.toArray [.int .i64 (-1), .bool false, .bool false]) 206 (0, 0))) (g1 : HG h 1 (.cells (List.toArray [.int .i64 (-2), .bool false, .bool false]) 206 (0, 0))) :
    ConM Tryd.prog 82 [.pointer (some ⟨p, 0, none⟩)] h (fun r h' => Ext h0 h' ∧ (∀ b o, HG h b o → b ≠ rh → HG h' b o) ∧ (∀ b, Own h b → Own h' b) ∧ ∃ has' rb es cl, r = .map (some rb) ∧ FlowAt h0 h' p sl rh rm ps has' most ∧ FlowOk ps has' most ∧ HG h' rb (.map es cl) ∧ Own h' rb ∧ h.get rb = none ∧ MapI spotK stepV es cl (byOf (found ps has' most)) ∧ byOf (found ps has' most) endS = none) := by
  refine ConM.intro (m := 1) Tryd.func82 rfl Tryd.ntmps82 rfl (by decide) ?_
  intro S hM cc cs hc
  have hS := hM.reg
  have nrh : ∀ b c e f, HG h b (.cells c e f) → b ≠ rh := fun b c e ff hb q => by
    obtain ⟨eh, ch, k1, _⟩ := f.hh
    subst q; exact absurd (hg_inj hb k1) (by simp)
  repeat (first | refine hS.seq ?_ | refine hS.regionW ?_ | refine W.pop ?_ | refine W.yes ?_ | refine W.no ?_ | refine W.box (fun _ _ => ?_) | refine W.alloc (fun _ _ => ?_) | refine W.store ?_ | refine W.bs (fun _ _ => ?_) | refine W.fn hS (fun _ _ => ?_) | refine WL.nil ?_ | refine R.condT hS ?_ | refine R.condF hS ?_ | refine hS.skip ?_ | refine hS.block ?_ | refine hS.inBlock ?_ | refine R.ret hS ?_ | refine R.fin hS ?_ | refine R.begin hS ?_ | refine R.endRound hS ?_ | refine R.retRound hS ?_ | refine R.retC hS ?_ | refine R.endRangeDone hS ?_ | refine R.endRangeRet hS ?_)
  rename_i q1 f1
  have ko : FlI h0 h (h.upd q1 (.cells (List.toArray [.pointer (some ⟨p, 0, none⟩)]) 198 (0, 0))) q1 p rh rm sl ps has most [] := ⟨HGC.out, f.ext Ext0.out, fun b o hb hn => fl_fr (Ext0.out : Ext h _) hb, fun b hb => fl_ow (Ext0.out : Ext h _) hb, gh_upd.trans hgh, Ext.trans x0 Ext0.out, Marks.nil⟩
  refine hS.loop ?_
  refine loop_ind2 (fun (has : Pipe → Option Int) => (capS ps most + net ps has srcS).toNat) (fun has E ds h' => LookC E 1 (.pointer (some ⟨q1, 0, none⟩)) ∧ FlI h0 h h' q1 p rh rm sl ps has most ds ∧ FlowOk ps has most) ?_ has _ _ _ ⟨inferInstance, ko, fo⟩
  clear ko fo f has
  rintro has E ds h' ⟨l1, k, fo⟩ ih
  have i1 : HGC h' q1 _ := ⟨k.g1⟩
  have i0 : HgAt h' 0 (.cells (List.toArray [.int .i64 (-1), .bool false, .bool false]) 206 (0, 0)) := ⟨fl_hg k.fr g0 (nrh _ _ _ _ g0)⟩
  have ie : HgAt h' 1 (.cells (List.toArray [.int .i64 (-2), .bool false, .bool false]) 206 (0, 0)) := ⟨fl_hg k.fr g1 (nrh _ _ _ _ g1)⟩
  have mkc : MkC h h' [] ds := ⟨k.mks⟩
  have hnw : ∀ q ∈ ps, NoW (amt most q - amt has q) := fun q hq => NoW.of (by have := fo.rng q hq; have := hb q hq; omega) (by have := fo.rng q hq; have := hb q hq; omega)
  repeat (first | refine hS.seq ?_ | refine hS.regionW ?_ | refine W.pop ?_ | refine W.yes ?_ | refine W.no ?_ | refine W.box (fun _ _ => ?_) | refine W.alloc (fun _ _ => ?_) | refine W.store ?_ | refine W.bs (fun _ _ => ?_) | refine W.fn hS (fun _ _ => ?_) | refine WL.nil ?_ | refine R.condT hS ?_ | refine R.condF hS ?_ | refine hS.skip ?_ | refine hS.block ?_ | refine hS.inBlock ?_ | refine R.ret hS ?_ | refine R.fin hS ?_ | refine R.begin hS ?_ | refine R.endRound hS ?_ | refine R.retRound hS ?_ | refine R.retC hS ?_ | refine R.endRangeDone hS ?_ | refine R.endRangeRet hS ?_)
  refine W.callM hM (c121 k.gh k.fl.hp k.fl.w.sle k.fl.hh k.fl.hm i0.out (by omega) hnw) (fun rr h2 hr => ?_)
  obtain ⟨x2, rb, eb, cb, rfl, frb, gb, ob, mb⟩ := hr
  have x2c : ExtC h' h2 := ⟨x2⟩
  have jb : HGC h2 rb (.map eb cb) := ⟨gb⟩
  have job : OwnC h2 rb := ⟨ob⟩
  have jm : MiC spotK stepV eb cb (byOf (found ps has most)) := ⟨mb⟩
  repeat (first | refine hS.seq ?_ | refine hS.regionW ?_ | refine W.pop ?_ | refine W.yes ?_ | refine W.no ?_ | refine W.box (fun _ _ => ?_) | refine W.alloc (fun _ _ => ?_) | refine W.store ?_ | refine W.bs (fun _ _ => ?_) | refine W.fn hS (fun _ _ => ?_) | refine WL.nil ?_ | refine R.condT hS ?_ | refine R.condF hS ?_ | refine hS.skip ?_ | refine hS.block ?_ | refine hS.inBlock ?_ | refine R.ret hS ?_ | refine R.fin hS ?_ | refine R.begin hS ?_ | refine R.endRound hS ?_ | refine R.retRound hS ?_ | refine R.retC hS ?_ | refine R.endRangeDone hS ?_ | refine R.endRangeRet hS ?_)
  rename_i q4 f4
  cases hby : byOf (found ps has most) endS with
  | none =>
    have t1 : IsC (!(byOf (found ps has most) ⟨-2, false, false⟩).isSome) true := ⟨by
      show (!(byOf (found ps has most) endS).isSome) = true
      rw [hby]; rfl⟩
    repeat (first | refine hS.seq ?_ | refine hS.regionW ?_ | refine W.pop ?_ | refine W.yes ?_ | refine W.no ?_ | refine W.box (fun _ _ => ?_) | refine W.alloc (fun _ _ => ?_) | refine W.store ?_ | refine W.bs (fun _ _ => ?_) | refine W.fn hS (fun _ _ => ?_) | refine WL.nil ?_ | refine R.condT hS ?_ | refine R.condF hS ?_ | refine hS.skip ?_ | refine hS.block ?_ | refine hS.inBlock ?_ | refine R.ret hS ?_ | refine R.fin hS ?_ | refine R.begin hS ?_ | refine R.endRound hS ?_ | refine R.retRound hS ?_ | refine R.retC hS ?_ | refine R.endRangeDone hS ?_ | refine R.endRangeRet hS ?_)
    refine R.retM hS (h0 := h) (fun _ => inferInstance) (fun h3 tk => ?_)
    have xk := k.ext' (ext_tk (h' := h') tk)
    have gb' : HGC _ rb (.map eb cb) := hg_tk tk
    have ob' : OwnC _ rb := ow_tk tk
    have frb' : h.get rb = none := (k.out frb).f
    exact hc _ _ ⟨tk_ext tk xk.ex x0, fun b o hb' hne => tk_old tk (fl_hg xk.fr hb' hne) hb', fun b hb' => tk_ow tk (own_of xk.ow hb'), has, rb, eb, cb, rfl, flow_tk xk.fl tk, fo, tk_hg tk gb'.out, tk_ow tk ob'.out, frb', mb, hby⟩
  | some s =>
    have t1 : IsC (!(byOf (found ps has most) ⟨-2, false, false⟩).isSome) false := ⟨by
      show (!(byOf (found ps has most) endS).isSome) = false
      rw [hby]; rfl⟩
    have efs : (byOf (found ps has most) ⟨-2, false, false⟩).getD step0 = s := by
      show (byOf (found ps has most) endS).getD step0 = s
      rw [hby]; rfl
    rw [efs]
    repeat (first | refine hS.seq ?_ | refine hS.regionW ?_ | refine W.pop ?_ | refine W.yes ?_ | refine W.no ?_ | refine W.box (fun _ _ => ?_) | refine W.alloc (fun _ _ => ?_) | refine W.store ?_ | refine W.bs (fun _ _ => ?_) | refine W.fn hS (fun _ _ => ?_) | refine WL.nil ?_ | refine R.condT hS ?_ | refine R.condF hS ?_ | refine hS.skip ?_ | refine hS.block ?_ | refine hS.inBlock ?_ | refine R.ret hS ?_ | refine R.fin hS ?_ | refine R.begin hS ?_ | refine R.endRound hS ?_ | refine R.retRound hS ?_ | refine R.retC hS ?_ | refine R.endRangeDone hS ?_ | refine R.endRangeRet hS ?_)
    rename_i q6 f6
    obtain ⟨L, hw, hLl, hLn, hLf, hLh⟩ := way_end hby
    have hfree : ∀ x ∈ L, 1 ≤ x.free ∧ x.free ≤ 1000000000000000 := fun x hx => by
      have h1 := steps_begin (found_mem (hLf x hx))
      have h2 := fo.rng _ h1.2.1
      have h3 := hb _ h1.2.1
      have h4 := h1.2.2.2
      split at h4 <;> omega
    have hs1 : 1 ≤ s.free ∧ s.free ≤ 1000000000000000 := hfree s (List.mem_of_mem_head? (by rw [hLh]; rfl))
    have o6 : Out1 h q1 p rh rm sl q6 := k.outE
    have nb6 : NeB rb q6 := inferInstance
    refine W.call hS c122 (fun r3 h3 hr3 => ?_)
    obtain ⟨qa, qm, rfl, fqa, fqm, nam, x3, ga, oa, gm⟩ := hr3
    have x3c : ExtC _ h3 := ⟨x3⟩
    have oqa : Out1 h q1 p rh rm sl qa := k.outE
    have nba : NeB qa rb := inferInstance
    have n6a : NeB qa q6 := inferInstance
    have n6m : NeB qm q6 := inferInstance
    repeat (first | refine hS.seq ?_ | refine hS.regionW ?_ | refine W.pop ?_ | refine W.yes ?_ | refine W.no ?_ | refine W.box (fun _ _ => ?_) | refine W.alloc (fun _ _ => ?_) | refine W.store ?_ | refine W.bs (fun _ _ => ?_) | refine W.fn hS (fun _ _ => ?_) | refine WL.nil ?_ | refine R.condT hS ?_ | refine R.condF hS ?_ | refine hS.skip ?_ | refine hS.block ?_ | refine hS.inBlock ?_ | refine R.ret hS ?_ | refine R.fin hS ?_ | refine R.begin hS ?_ | refine R.endRound hS ?_ | refine R.retRound hS ?_ | refine R.retC hS ?_ | refine R.endRangeDone hS ?_ | refine R.endRangeRet hS ?_)
    refine R.range hS (fun r lp hs tm asg bd et ea eb' xs fr fl nrl gr gl orr ol => ?_)
    have olp : Out1 h q1 p rh rm sl lp := k.outE
    have sep : Sep lp qa qm q6 rb := by
      have a1 : NeB lp qa := inferInstance
      have a2 : NeB lp qm := inferInstance
      have a3 : NeB lp q6 := inferInstance
      have a4 : NeB lp rb := inferInstance
      exact ⟨a1.out, a2.out, a3.out, a4.out, nam.out, n6a.out, nba.out, n6m.out, nb6.out⟩
    have k2 : FlI h0 h hs q1 p rh rm sl ps has most ({ target := .collected r, args := #[] } :: ds) := (k.ext' (ext_at fr)).push xs.out fr.out gr.out orr.out
    have g6 : HGC hs q6 (.cells (List.toArray [.int .i64 s.free]) 3 (0, 0)) := inferInstance
    have go6 : OwnC hs q6 := inferInstance
    have ggb : HGC hs rb (.map eb cb) := inferInstance
    have ggo : OwnC hs rb := inferInstance
    have gga : HGC hs qa (.cells (List.toArray [.int .i64 (-2), .bool false, .bool false]) 206 (0, 0)) := inferInstance
    have goa : OwnC hs qa := inferInstance
    have ggm : HGC hs qm (.cells (List.toArray [.map (some rb)]) 200 (0, 0)) := inferInstance
    have rbn : h.get rb = none := (k.out frb).f
    refine it182 hS (f := byOf (found ps has most)) (x := endS) (L := L) hw (rb := rb) (qa := qa) (qm := qm) (lp := lp) (r := r) (fnx := 82) (tmps := tm) (j := 25) (assign := asg) (body := bd)
      (fun i h1 => RgI h0 h q1 p rh rm sl ps has most ({ target := .collected r, args := #[] } :: ds) lp qa qm q6 rb (.loop (lpr .ready none 82 tm #[25] asg bd r)) (.map eb cb) (least (L.take i) s.free) h1) _ _ (fun i a b x y => x.ext' y) (fun i a c x => x.updq x0 oqa sep c) ?_ ?_ ?_ ⟨k2, gl.out, ol.out, ⟨_, gga.out⟩, ggm.out, g6.out, go6.out, ggb.out⟩ gga.out goa.out
    · intro i h1 kk
      exact ⟨⟨kk.gm⟩, ⟨eb, cb, ⟨kk.gb⟩, jm⟩, ⟨fl_hg kk.k.fr g0 (nrh _ _ _ _ g0)⟩, ⟨kk.gl⟩⟩
    · rintro i s' hi hA hB kA xAB c cont
      have kB := kA.ext' xAB
      have jl : HGC hB lp _ := ⟨kB.gl⟩
      have jol : OwnC hB lp := ⟨kB.ol⟩
      have j6 : HGC hB q6 _ := ⟨kB.g6⟩
      have jo6 : OwnC hB q6 := ⟨kB.o6⟩
      have e1 : NeB q6 lp := ⟨sep.l6.symm⟩
      have e2 : NeB lp q6 := ⟨sep.l6⟩
      have kp : KpC (hA.del qa) hB hB := ⟨Kept.refl⟩
      have d1 : DomC hA lp := dom_of kA.gl
      have d2 : DomC hA q6 := dom_of kA.g6
      have e3 : NeB lp qa := ⟨sep.la⟩
      have e4 : NeB q6 qa := ⟨sep.a6.symm⟩
      refine R.round et ea eb' ?_
      repeat (first | refine hS.seq ?_ | refine hS.regionW ?_ | refine W.pop ?_ | refine W.yes ?_ | refine W.no ?_ | refine W.box (fun _ _ => ?_) | refine W.alloc (fun _ _ => ?_) | refine W.store ?_ | refine W.bs (fun _ _ => ?_) | refine W.fn hS (fun _ _ => ?_) | refine WL.nil ?_ | refine R.condT hS ?_ | refine R.condF hS ?_ | refine hS.skip ?_ | refine hS.block ?_ | refine hS.inBlock ?_ | refine R.ret hS ?_ | refine R.fin hS ?_ | refine R.begin hS ?_ | refine R.endRound hS ?_ | refine R.retRound hS ?_ | refine R.retC hS ?_ | refine R.endRangeDone hS ?_ | refine R.endRangeRet hS ?_)
      refine cont _ ?_ KpC.out
      rw [least_snoc hi]
      exact (((kB.ext' (Ext0.out)).updl (lo' := .loop (lpr .busy none 82 tm #[25] asg bd r)) x0 olp sep).upd6 x0 o6 sep).updl x0 olp sep
    · rintro hA kA
      have jl : HGC hA lp _ := ⟨kA.gl⟩
      have jol : OwnC hA lp := ⟨kA.ol⟩
      refine R.endRangeDone hS ?_
      have kA' := kA.updl (lo' := .loop (lpr .exhausted none 82 tm #[25] asg bd r)) x0 olp sep
      rw [List.take_length] at kA'
      refine at_heap (fun hx => FlI h0 h hx q1 p rh rm sl ps has most ({ target := .collected r, args := #[] } :: ds) ∧ HG hx rb (.map eb cb) ∧ HG hx q6 (.cells (List.toArray [.int .i64 (least L s.free)]) 3 (0, 0)) ∧ Own hx q6) ⟨kA'.k, kA'.gb, kA'.g6, kA'.o6⟩ (fun hx hkx => ?_)
      obtain ⟨kx, gbx, g6x, o6x⟩ := hkx
      have v1 : HGC hx rb (.map eb cb) := ⟨gbx⟩
      have v2 : HGC hx q6 _ := ⟨g6x⟩
      have v3 : OwnC hx q6 := ⟨o6x⟩
      have v4 : HGC hx q1 _ := ⟨kx.g1⟩
      have ie2 : HgAt hx 1 (.cells (List.toArray [.int .i64 (-2), .bool false, .bool false]) 206 (0, 0)) := ⟨fl_hg kx.fr g1 (nrh _ _ _ _ g1)⟩
      repeat (first | refine hS.seq ?_ | refine hS.regionW ?_ | refine W.pop ?_ | refine W.yes ?_ | refine W.no ?_ | refine W.box (fun _ _ => ?_) | refine W.alloc (fun _ _ => ?_) | refine W.store ?_ | refine W.bs (fun _ _ => ?_) | refine W.fn hS (fun _ _ => ?_) | refine WL.nil ?_ | refine R.condT hS ?_ | refine R.condF hS ?_ | refine hS.skip ?_ | refine hS.block ?_ | refine hS.inBlock ?_ | refine R.ret hS ?_ | refine R.fin hS ?_ | refine R.begin hS ?_ | refine R.endRound hS ?_ | refine R.retRound hS ?_ | refine R.retC hS ?_ | refine R.endRangeDone hS ?_ | refine R.endRangeRet hS ?_)
      refine W.call hS c122 (fun r3 h3 hr3 => ?_)
      obtain ⟨qa2, qm2, rfl, fqa2, fqm2, nam2, x32, ga2, oa2, gm2⟩ := hr3
      have x3c2 : ExtC _ h3 := ⟨x32⟩
      have oqa2 : Out1 h q1 p rh rm sl qa2 := kx.outE
      have nba2 : NeB qa2 rb := inferInstance
      have n6a2 : NeB qa2 q6 := inferInstance
      have n6m2 : NeB qm2 q6 := inferInstance
      repeat (first | refine hS.seq ?_ | refine hS.regionW ?_ | refine W.pop ?_ | refine W.yes ?_ | refine W.no ?_ | refine W.box (fun _ _ => ?_) | refine W.alloc (fun _ _ => ?_) | refine W.store ?_ | refine W.bs (fun _ _ => ?_) | refine W.fn hS (fun _ _ => ?_) | refine WL.nil ?_ | refine R.condT hS ?_ | refine R.condF hS ?_ | refine hS.skip ?_ | refine hS.block ?_ | refine hS.inBlock ?_ | refine R.ret hS ?_ | refine R.fin hS ?_ | refine R.begin hS ?_ | refine R.endRound hS ?_ | refine R.retRound hS ?_ | refine R.retC hS ?_ | refine R.endRangeDone hS ?_ | refine R.endRangeRet hS ?_)
      refine R.range hS (fun r2 lp2 hs2 tm2 asg2 bd2 et2 ea2 eb2 xs2 fr2 fl2 nrl2 gr2 gl2 orr2 ol2 => ?_)
      have olp2 : Out1 h q1 p rh rm sl lp2 := kx.outE
      have sep2 : Sep lp2 qa2 qm2 q6 rb := by
        have a1 : NeB lp2 qa2 := inferInstance
        have a2 : NeB lp2 qm2 := inferInstance
        have a3 : NeB lp2 q6 := inferInstance
        have a4 : NeB lp2 rb := inferInstance
        exact ⟨a1.out, a2.out, a3.out, a4.out, nam2.out, n6a2.out, nba2.out, n6m2.out, nb6.out⟩
      have k22 : FlI h0 h hs2 q1 p rh rm sl ps has most ({ target := .collected r2, args := #[] } :: { target := .collected r, args := #[] } :: ds) := (kx.ext' (ext_at fr2)).push xs2.out fr2.out gr2.out orr2.out
      have g62 : HGC hs2 q6 (.cells (List.toArray [.int .i64 (least L s.free)]) 3 (0, 0)) := inferInstance
      have go62 : OwnC hs2 q6 := inferInstance
      have ggb2 : HGC hs2 rb (.map eb cb) := inferInstance
      have gga2 : HGC hs2 qa2 (.cells (List.toArray [.int .i64 (-2), .bool false, .bool false]) 206 (0, 0)) := inferInstance
      have goa2 : OwnC hs2 qa2 := inferInstance
      have ggm2 : HGC hs2 qm2 (.cells (List.toArray [.map (some rb)]) 200 (0, 0)) := inferInstance
      have hrbh : rb ≠ rh := by
        obtain ⟨_, _, u, _⟩ := k.fl.hh
        exact (ne_of_none u frb).symm
      have hm1 : 1 ≤ least L s.free := least_ge L _ hs1.1 (fun x hx => (hfree x hx).1)
      have hm2 := least_le L s.free
      refine it182 hS (f := byOf (found ps has most)) (x := endS) (L := L) hw (rb := rb) (qa := qa2) (qm := qm2) (lp := lp2) (r := r2) (fnx := 82) (tmps := tm2) (j := 33) (assign := asg2) (body := bd2)
        (fun i h1 => RgI h0 h q1 p rh rm sl ps (augAll (least L s.free) has (L.take i)) most ({ target := .collected r2, args := #[] } :: { target := .collected r, args := #[] } :: ds) lp2 qa2 qm2 q6 rb (.loop (lpr .ready none 82 tm2 #[33] asg2 bd2 r2)) (.map eb cb) (least L s.free) h1) _ _ (fun i a b x y => x.ext' y) (fun i a c x => x.updq x0 oqa2 sep2 c) ?_ ?_ ?_ ⟨k22, gl2.out, ol2.out, ⟨_, gga2.out⟩, ggm2.out, g62.out, go62.out, ggb2.out⟩ gga2.out goa2.out
      · intro i h1 kk
        exact ⟨⟨kk.gm⟩, ⟨eb, cb, ⟨kk.gb⟩, jm⟩, ⟨fl_hg kk.k.fr g0 (nrh _ _ _ _ g0)⟩, ⟨kk.gl⟩⟩
      · rintro i s' hi hA2 hB2 kA2 xAB c cont
        have kB := kA2.ext' xAB
        have jl2 : HGC hB2 lp2 _ := ⟨kB.gl⟩
        have jol2 : OwnC hB2 lp2 := ⟨kB.ol⟩
        have kp : KpC (hA2.del qa2) hB2 hB2 := ⟨Kept.refl⟩
        have d0 : DomC hA2 lp2 := dom_of kA2.gl
        have e3 : NeB lp2 qa2 := ⟨sep2.la⟩
        have d1 : DomC (hA2.del qa2) lp2 := inferInstance
        have dh : (hA2.del qa2).get rh ≠ none := by
          obtain ⟨_, _, u, _⟩ := kA2.k.fl.hh
          have w1 : DomC hA2 rh := dom_of u
          have w2 : NeB rh qa2 := ⟨oqa2.nh⟩
          exact (inferInstance : DomC (hA2.del qa2) rh).out
        refine R.round et2 ea2 eb2 ?_
        repeat (first | refine hS.seq ?_ | refine hS.regionW ?_ | refine W.pop ?_ | refine W.yes ?_ | refine W.no ?_ | refine W.box (fun _ _ => ?_) | refine W.alloc (fun _ _ => ?_) | refine W.store ?_ | refine W.bs (fun _ _ => ?_) | refine W.fn hS (fun _ _ => ?_) | refine WL.nil ?_ | refine R.condT hS ?_ | refine R.condF hS ?_ | refine hS.skip ?_ | refine hS.block ?_ | refine hS.inBlock ?_ | refine R.ret hS ?_ | refine R.fin hS ?_ | refine R.begin hS ?_ | refine R.endRound hS ?_ | refine R.retRound hS ?_ | refine R.retC hS ?_ | refine R.endRangeDone hS ?_ | refine R.endRangeRet hS ?_)
        rename_i q8 f8
        refine at_heap (fun hz => RgI h0 h q1 p rh rm sl ps (augAll (least L s.free) has (L.take i)) most ({ target := .collected r2, args := #[] } :: { target := .collected r, args := #[] } :: ds) lp2 qa2 qm2 q6 rb (.loop (lpr .busy none 82 tm2 #[33] asg2 bd2 r2)) (.map eb cb) (least L s.free) hz ∧ HG hz q8 (.cells (List.toArray [.int .i64 s'.p.frm.t, .bool s'.p.frm.a, .bool s'.p.frm.b, .int .i64 s'.p.to.t, .bool s'.p.to.a, .bool s'.p.to.b, .int .i64 s'.p.tie, .bool s'.back, .int .i64 s'.free]) 214 (0, 0)) ∧ Kept (hA2.del qa2) hB2 hz) ⟨(kB.ext' Ext0.out).updl x0 olp2 sep2, HGC.out, KpC.out⟩ (fun hz hkz => ?_)
        obtain ⟨k4, g84, kp4⟩ := hkz
        have w8 : HGC hz q8 _ := ⟨g84⟩
        have w1 : HGC hz q1 _ := ⟨k4.k.g1⟩
        have wp : HGC hz p _ := ⟨k4.k.fl.hp⟩
        obtain ⟨eh, ch, gh4, mh4⟩ := k4.k.fl.hh
        have wh : HGC hz rh (.map eh ch) := ⟨gh4⟩
        have who : OwnC hz rh := ⟨k4.k.fl.oh⟩
        have wm : MiC pipeK intK eh ch (augAll (least L s.free) has (L.take i)) := ⟨mh4⟩
        have w6 : HGC hz q6 _ := ⟨k4.g6⟩
        have hsp : s'.p ∈ ps := (steps_begin (found_mem (hLf s' (List.mem_of_getElem? hi)))).2.1
        have hbd := aug_bound (m := least L s.free) (by omega) (q := s'.p) (L.take i) has
        have hrg := fo.rng _ hsp
        have hmb := hb _ hsp
        have hlen : ((L.take i).length : Int) * least L s.free ≤ 2000000000000000000 := by
          have a1 : ((L.take i).length : Int) ≤ 2000 := by simp; omega
          have a2 : least L s.free ≤ 1000000000000000 := by omega
          have := Int.mul_le_mul a1 a2 (by omega) (by omega)
          omega
        have nws : NoW (((augAll (least L s.free) has (L.take i)) ⟨⟨s'.p.frm.t, s'.p.frm.a, s'.p.frm.b⟩, ⟨s'.p.to.t, s'.p.to.a, s'.p.to.b⟩, s'.p.tie⟩).getD 0 - least L s.free) := by
          show NoW (amt (augAll (least L s.free) has (L.take i)) s'.p - least L s.free)
          exact NoW.of (by omega) (by omega)
        have nwa : NoW (((augAll (least L s.free) has (L.take i)) ⟨⟨s'.p.frm.t, s'.p.frm.a, s'.p.frm.b⟩, ⟨s'.p.to.t, s'.p.to.a, s'.p.to.b⟩, s'.p.tie⟩).getD 0 + least L s.free) := by
          show NoW (amt (augAll (least L s.free) has (L.take i)) s'.p + least L s.free)
          exact NoW.of (by omega) (by omega)
        have nws2 : NoW ((updF (augAll (least L s.free) has (L.take i)) ⟨⟨s'.p.frm.t, s'.p.frm.a, s'.p.frm.b⟩, ⟨s'.p.to.t, s'.p.to.a, s'.p.to.b⟩, s'.p.tie⟩ (((augAll (least L s.free) has (L.take i)) ⟨⟨s'.p.frm.t, s'.p.frm.a, s'.p.frm.b⟩, ⟨s'.p.to.t, s'.p.to.a, s'.p.to.b⟩, s'.p.tie⟩).getD 0) ⟨⟨s'.p.frm.t, s'.p.frm.a, s'.p.frm.b⟩, ⟨s'.p.to.t, s'.p.to.a, s'.p.to.b⟩, s'.p.tie⟩).getD 0 - least L s.free) := by
          simp only [updF, if_true, Option.getD_some]; exact nws
        have nwa2 : NoW ((updF (augAll (least L s.free) has (L.take i)) ⟨⟨s'.p.frm.t, s'.p.frm.a, s'.p.frm.b⟩, ⟨s'.p.to.t, s'.p.to.a, s'.p.to.b⟩, s'.p.tie⟩ (((augAll (least L s.free) has (L.take i)) ⟨⟨s'.p.frm.t, s'.p.frm.a, s'.p.frm.b⟩, ⟨s'.p.to.t, s'.p.to.a, s'.p.to.b⟩, s'.p.tie⟩).getD 0) ⟨⟨s'.p.frm.t, s'.p.frm.a, s'.p.frm.b⟩, ⟨s'.p.to.t, s'.p.to.a, s'.p.to.b⟩, s'.p.tie⟩).getD 0 + least L s.free) := by
          simp only [updF, if_true, Option.getD_some]; exact nwa
        refine R.cond hS (fun hT => ?_) (fun hF => ?_)
        · have hbk := hT.out
          refine hS.regionA mixed [9, 11] ?_
          refine A.join (fun E' ds' h5 => ds' = [] ∧ RgI h0 h q1 p rh rm sl ps (aug (least L s.free) (augAll (least L s.free) has (L.take i)) s') most ({ target := .collected r2, args := #[] } :: { target := .collected r, args := #[] } :: ds) lp2 qa2 qm2 q6 rb (.loop (lpr .busy none 82 tm2 #[33] asg2 bd2 r2)) (.map eb cb) (least L s.free) h5 ∧ Kept (hA2.del qa2) hB2 h5) ?_ ?_
          · refine A.take 0 rfl (by kernel_rfl) (by intro _ _ e; cases e) ?_
            refine A.take 1 rfl (by kernel_rfl) (by intro _ _ e; cases e) ?_
            refine A.take 2 rfl (by kernel_rfl) (by intro _ _ e; cases e) ?_
            refine A.take 3 rfl (by kernel_rfl) (by intro _ _ e; cases e) ?_
            refine A.take 4 rfl (by kernel_rfl) (by intro _ _ e; cases e) ?_
            refine A.take 5 rfl (by kernel_rfl) (by intro _ _ e; cases e) ?_
            refine A.take 7 rfl (by kernel_rfl) (by intro _ _ e; cases e) ?_
            refine A.two 6 9 rfl rfl (by kernel_rfl) ?_ ?_
            · refine W.pop ?_
              refine A.soft ?_
              refine A.takeM 8 rfl (by kernel_rfl) (by intro _ _ e; cases e) ?_
              refine A.one 9 rfl (by kernel_rfl) ?_
              refine W.mapEn pipeK intK (0 : Int) (by kernel_rfl) (fun es1 c1 st m1 s1 => ?_)
              refine A.hard (by rfl) ?_
              refine A.takeM 10 rfl (by kernel_rfl) (by intro _ _ e; cases e) ?_
              refine A.one 11 rfl (by kernel_rfl) ?_
              refine W.enStore pipeK intK (fun a b => pipeK_inj) (fun es2 c2 m2 => ?_)
              refine A.hard (by rfl) ?_
              refine Any.done (by kernel_rfl) ?_
              rw [LH.upd_upd]
              refine ⟨rfl, k4.updh hrbh ?_, kp4.updl dh⟩
              have := m2.out
              rw [updF_updF] at this
              first | rw [updF_at] at this | skip
              have e9 : aug (least L s.free) (augAll (least L s.free) has (L.take i)) s' = updF (augAll (least L s.free) has (L.take i)) s'.p (amt (augAll (least L s.free) has (L.take i)) s'.p - least L s.free) := by simp only [aug, hbk, if_true]
              rw [e9]
              exact this
            · refine W.mapEn pipeK intK (0 : Int) (by kernel_rfl) (fun es1 c1 st m1 s1 => ?_)
              refine A.hard (by rfl) ?_
              refine A.takeM 10 rfl (by kernel_rfl) (by intro _ _ e; cases e) ?_
              refine A.take 6 rfl (by kernel_rfl) (by intro _ _ e; cases e) ?_
              refine A.takeM 8 rfl (by kernel_rfl) (by intro _ _ e; cases e) ?_
              refine A.one 11 rfl (by kernel_rfl) ?_
              refine W.enStore pipeK intK (fun a b => pipeK_inj) (fun es2 c2 m2 => ?_)
              refine A.hard (by rfl) ?_
              refine Any.done (by kernel_rfl) ?_
              rw [LH.upd_upd]
              refine ⟨rfl, k4.updh hrbh ?_, kp4.updl dh⟩
              have := m2.out
              rw [updF_updF] at this
              first | rw [updF_at] at this | skip
              have e9 : aug (least L s.free) (augAll (least L s.free) has (L.take i)) s' = updF (augAll (least L s.free) has (L.take i)) s'.p (amt (augAll (least L s.free) has (L.take i)) s'.p - least L s.free) := by simp only [aug, hbk, if_true]
              rw [e9]
              exact this
          · rintro E' ds' h5 ⟨rfl, k5, kp5⟩
            have u1 : HGC h5 lp2 _ := ⟨k5.gl⟩
            have u2 : OwnC h5 lp2 := ⟨k5.ol⟩
            repeat (first | refine hS.seq ?_ | refine hS.regionW ?_ | refine W.pop ?_ | refine W.yes ?_ | refine W.no ?_ | refine W.box (fun _ _ => ?_) | refine W.alloc (fun _ _ => ?_) | refine W.store ?_ | refine W.bs (fun _ _ => ?_) | refine W.fn hS (fun _ _ => ?_) | refine WL.nil ?_ | refine R.condT hS ?_ | refine R.condF hS ?_ | refine hS.skip ?_ | refine hS.block ?_ | refine hS.inBlock ?_ | refine R.ret hS ?_ | refine R.fin hS ?_ | refine R.begin hS ?_ | refine R.endRound hS ?_ | refine R.retRound hS ?_ | refine R.retC hS ?_ | refine R.endRangeDone hS ?_ | refine R.endRangeRet hS ?_)
            refine cont _ ?_ (kp5.updl d1.out)
            rw [augAll_snoc hi]
            exact k5.updl x0 olp2 sep2
        · have hbk := hF.out
          refine hS.regionA mixed [9, 11] ?_
          refine A.join (fun E' ds' h5 => ds' = [] ∧ RgI h0 h q1 p rh rm sl ps (aug (least L s.free) (augAll (least L s.free) has (L.take i)) s') most ({ target := .collected r2, args := #[] } :: { target := .collected r, args := #[] } :: ds) lp2 qa2 qm2 q6 rb (.loop (lpr .busy none 82 tm2 #[33] asg2 bd2 r2)) (.map eb cb) (least L s.free) h5 ∧ Kept (hA2.del qa2) hB2 h5) ?_ ?_
          · refine A.take 0 rfl (by kernel_rfl) (by intro _ _ e; cases e) ?_
            refine A.take 1 rfl (by kernel_rfl) (by intro _ _ e; cases e) ?_
            refine A.take 2 rfl (by kernel_rfl) (by intro _ _ e; cases e) ?_
            refine A.take 3 rfl (by kernel_rfl) (by intro _ _ e; cases e) ?_
            refine A.take 4 rfl (by kernel_rfl) (by intro _ _ e; cases e) ?_
            refine A.take 5 rfl (by kernel_rfl) (by intro _ _ e; cases e) ?_
            refine A.take 7 rfl (by kernel_rfl) (by intro _ _ e; cases e) ?_
            refine A.two 6 9 rfl rfl (by kernel_rfl) ?_ ?_
            · refine W.pop ?_
              refine A.soft ?_
              refine A.takeM 8 rfl (by kernel_rfl) (by intro _ _ e; cases e) ?_
              refine A.one 9 rfl (by kernel_rfl) ?_
              refine W.mapEn pipeK intK (0 : Int) (by kernel_rfl) (fun es1 c1 st m1 s1 => ?_)
              refine A.hard (by rfl) ?_
              refine A.takeM 10 rfl (by kernel_rfl) (by intro _ _ e; cases e) ?_
              refine A.one 11 rfl (by kernel_rfl) ?_
              refine W.enStore pipeK intK (fun a b => pipeK_inj) (fun es2 c2 m2 => ?_)
              refine A.hard (by rfl) ?_
              refine Any.done (by kernel_rfl) ?_
              rw [LH.upd_upd]
              refine ⟨rfl, k4.updh hrbh ?_, kp4.updl dh⟩
              have := m2.out
              rw [updF_updF] at this
              first | rw [updF_at] at this | skip
              have e9 : aug (least L s.free) (augAll (least L s.free) has (L.take i)) s' = updF (augAll (least L s.free) has (L.take i)) s'.p (amt (augAll (least L s.free) has (L.take i)) s'.p + least L s.free) := by simp only [aug, hbk, Bool.false_eq_true, if_false]
              rw [e9]
              exact this
            · refine W.mapEn pipeK intK (0 : Int) (by kernel_rfl) (fun es1 c1 st m1 s1 => ?_)
              refine A.hard (by rfl) ?_
              refine A.takeM 10 rfl (by kernel_rfl) (by intro _ _ e; cases e) ?_
              refine A.take 6 rfl (by kernel_rfl) (by intro _ _ e; cases e) ?_
              refine A.takeM 8 rfl (by kernel_rfl) (by intro _ _ e; cases e) ?_
              refine A.one 11 rfl (by kernel_rfl) ?_
              refine W.enStore pipeK intK (fun a b => pipeK_inj) (fun es2 c2 m2 => ?_)
              refine A.hard (by rfl) ?_
              refine Any.done (by kernel_rfl) ?_
              rw [LH.upd_upd]
              refine ⟨rfl, k4.updh hrbh ?_, kp4.updl dh⟩
              have := m2.out
              rw [updF_updF] at this
              first | rw [updF_at] at this | skip
              have e9 : aug (least L s.free) (augAll (least L s.free) has (L.take i)) s' = updF (augAll (least L s.free) has (L.take i)) s'.p (amt (augAll (least L s.free) has (L.take i)) s'.p + least L s.free) := by simp only [aug, hbk, Bool.false_eq_true, if_false]
              rw [e9]
              exact this
          · rintro E' ds' h5 ⟨rfl, k5, kp5⟩
            have u1 : HGC h5 lp2 _ := ⟨k5.gl⟩
            have u2 : OwnC h5 lp2 := ⟨k5.ol⟩
            repeat (first | refine hS.seq ?_ | refine hS.regionW ?_ | refine W.pop ?_ | refine W.yes ?_ | refine W.no ?_ | refine W.box (fun _ _ => ?_) | refine W.alloc (fun _ _ => ?_) | refine W.store ?_ | refine W.bs (fun _ _ => ?_) | refine W.fn hS (fun _ _ => ?_) | refine WL.nil ?_ | refine R.condT hS ?_ | refine R.condF hS ?_ | refine hS.skip ?_ | refine hS.block ?_ | refine hS.inBlock ?_ | refine R.ret hS ?_ | refine R.fin hS ?_ | refine R.begin hS ?_ | refine R.endRound hS ?_ | refine R.retRound hS ?_ | refine R.retC hS ?_ | refine R.endRangeDone hS ?_ | refine R.endRangeRet hS ?_)
            refine cont _ ?_ (kp5.updl d1.out)
            rw [augAll_snoc hi]
            exact k5.updl x0 olp2 sep2
      · rintro hA2 kA2
        have jl2 : HGC hA2 lp2 _ := ⟨kA2.gl⟩
        have jol2 : OwnC hA2 lp2 := ⟨kA2.ol⟩
        refine R.endRangeDone hS ?_
        have kA2' := kA2.updl (lo' := .loop (lpr .exhausted none 82 tm2 #[33] asg2 bd2 r2)) x0 olp2 sep2
        rw [List.take_length] at kA2'
        refine at_heap (fun hx => FlI h0 h hx q1 p rh rm sl ps (augAll (least L s.free) has L) most ({ target := .collected r2, args := #[] } :: { target := .collected r, args := #[] } :: ds)) kA2'.k (fun hy ky => ?_)
        obtain ⟨fo', hnet⟩ := flow_aug fo hw hLn hLf (m := least L s.free) (by omega) hm2.2
        have hc1 := net_cap fo
        have hc2 := net_cap fo'
        repeat (first | refine hS.seq ?_ | refine hS.regionW ?_ | refine W.pop ?_ | refine W.yes ?_ | refine W.no ?_ | refine W.box (fun _ _ => ?_) | refine W.alloc (fun _ _ => ?_) | refine W.store ?_ | refine W.bs (fun _ _ => ?_) | refine W.fn hS (fun _ _ => ?_) | refine WL.nil ?_ | refine R.condT hS ?_ | refine R.condF hS ?_ | refine hS.skip ?_ | refine hS.block ?_ | refine hS.inBlock ?_ | refine R.ret hS ?_ | refine R.fin hS ?_ | refine R.begin hS ?_ | refine R.endRound hS ?_ | refine R.retRound hS ?_ | refine R.retC hS ?_ | refine R.endRangeDone hS ?_ | refine R.endRangeRet hS ?_)
        refine hS.inLoop ?_
        exact ih (augAll (least L s.free) has L) _ _ _ (by omega) ⟨inferInstance, ky, fo'⟩
end Go.Proofs.YtankmjkogcbnfaaDoor
/-
  Plain: what a full flow says of cuts, and what a flow that cannot grow says.
-/
namespace Go.Proofs.YtankmjkogcbnfaaDoor
open Go Go.SL

/-! ### sums -/
theorem sum_add {α : Type} (l : List α) (f g : α → Int) : (l.map fun x => f x + g x).sum = (l.map f).sum + (l.map g).sum := by
  induction l with
  | nil => rfl
  | cons a l ih => simp only [List.map_cons, List.sum_cons, ih]; omega
theorem sum_sub {α : Type} (l : List α) (f g : α → Int) : (l.map fun x => f x - g x).sum = (l.map f).sum - (l.map g).sum := by
  induction l with
  | nil => rfl
  | cons a l ih => simp only [List.map_cons, List.sum_cons, ih]; omega
theorem sum_mul {α : Type} (l : List α) (f : α → Int) (c : Int) : (l.map fun x => c * f x).sum = c * (l.map f).sum := by
  induction l with
  | nil => simp
  | cons a l ih => simp only [List.map_cons, List.sum_cons, ih, Int.mul_add]
theorem sum_zero {α : Type} (l : List α) (f : α → Int) (h : ∀ x ∈ l, f x = 0) : (l.map f).sum = 0 := by
  induction l with
  | nil => rfl
  | cons a l ih =>
    simp only [List.map_cons, List.sum_cons]
    rw [h a List.mem_cons_self, ih fun x hx => h x (List.mem_cons_of_mem _ hx)]; rfl
theorem sum_mono {α : Type} (l : List α) (f g : α → Int) (h : ∀ x ∈ l, f x ≤ g x) : (l.map f).sum ≤ (l.map g).sum := by
  induction l with
  | nil => exact Int.le_refl _
  | cons a l ih =>
    simp only [List.map_cons, List.sum_cons]
    have := h a List.mem_cons_self
    have := ih fun x hx => h x (List.mem_cons_of_mem _ hx)
    omega
theorem sum_lt {α : Type} (l : List α) (f g : α → Int) (h : ∀ x ∈ l, f x ≤ g x) {y : α} (hy : y ∈ l) (hl : f y < g y) : (l.map f).sum < (l.map g).sum := by
  induction l with
  | nil => cases hy
  | cons a l ih =>
    simp only [List.map_cons, List.sum_cons]
    rcases List.mem_cons.1 hy with rfl | hy
    · have := sum_mono l f g fun x hx => h x (List.mem_cons_of_mem _ hx)
      omega
    · have := h a List.mem_cons_self
      have := ih (fun x hx => h x (List.mem_cons_of_mem _ hx)) hy
      omega
theorem sum_swap {α β : Type} (l : List α) (m : List β) (f : α → β → Int) : (l.map fun x => (m.map fun y => f x y).sum).sum = (m.map fun y => (l.map fun x => f x y).sum).sum := by
  induction l with
  | nil => simp only [List.map_nil, List.sum_nil]; exact (sum_zero m _ fun _ _ => rfl).symm
  | cons a l ih => simp only [List.map_cons, List.sum_cons, ih]; rw [← sum_add]
theorem sum_one {α : Type} [DecidableEq α] {l : List α} (hn : l.Nodup) {x : α} (hx : x ∈ l) (f : α → Int) (h : ∀ y ∈ l, y ≠ x → f y = 0) : (l.map f).sum = f x := by
  induction l with
  | nil => cases hx
  | cons a l ih =>
    have hn' := List.nodup_cons.1 hn
    simp only [List.map_cons, List.sum_cons]
    by_cases e : a = x
    · subst e
      rw [sum_zero l f fun y hy => h y (List.mem_cons_of_mem _ hy) fun e => hn'.1 (e ▸ hy)]; omega
    · rw [h a List.mem_cons_self e, ih hn'.2 ((List.mem_cons.1 hx).resolve_left (Ne.symm e)) fun y hy => h y (List.mem_cons_of_mem _ hy)]; omega
theorem sum_two {α : Type} [DecidableEq α] {l : List α} (hn : l.Nodup) {x z : α} (hx : x ∈ l) (hz : z ∈ l) (hxz : x ≠ z) (f : α → Int) (h : ∀ y ∈ l, y ≠ x → y ≠ z → f y = 0) : (l.map f).sum = f x + f z := by
  have h1 := sum_one hn hx (fun y => if y = x then f y else 0) (fun y _ hy => if_neg hy)
  have h2 := sum_one hn hz (fun y => if y = z then f y else 0) (fun y _ hy => if_neg hy)
  simp only [if_true] at h1 h2
  rw [← h1, ← h2, ← sum_add]
  congr 1
  refine List.map_congr_left fun y hy => ?_
  by_cases e1 : y = x
  · rw [if_pos e1, if_neg (fun e => hxz (e1.symm.trans e))]; omega
  · by_cases e2 : y = z
    · rw [if_neg e1, if_pos e2]; omega
    · rw [if_neg e1, if_neg e2, h y hy e1 e2]; rfl
theorem nodup_cover {α : Type} [DecidableEq α] : ∀ L : List α, ∃ T : List α, T.Nodup ∧ ∀ x, x ∈ T ↔ x ∈ L
  | [] => ⟨[], by simp, by simp⟩
  | a :: L => by
    obtain ⟨T, h1, h2⟩ := nodup_cover L
    by_cases ha : a ∈ T
    · exact ⟨T, h1, fun x => by rw [h2, List.mem_cons]; exact ⟨.inr, fun h => h.elim (fun e => e ▸ (h2 a).1 ha) id⟩⟩
    · exact ⟨a :: T, List.nodup_cons.2 ⟨ha, h1⟩, fun x => by rw [List.mem_cons, List.mem_cons, h2]⟩

/-- What a flow leads out of a set of spots with the source, and without the end, is what the source gives. -/
theorem net_cut {ps : List Pipe} {has most : Pipe → Option Int} (f : FlowOk ps has most) (R : Spot → Bool) (h1 : R srcS = true) (h2 : R endS = false) :
    (ps.map fun q => (if R q.to then amt has q else 0) - (if R q.frm then amt has q else 0)).sum = net ps has srcS := by
  obtain ⟨T, hT, hmem⟩ := nodup_cover (srcS :: spots ps)
  have key : ∀ (x : Spot) (a : Int), x ∈ T → (T.map fun t => if R t then (if x = t then a else 0) else 0).sum = if R x then a else 0 := by
    intro x a hx
    rw [sum_one hT hx _ (fun y _ hy => by
      by_cases hr : R y = true
      · rw [if_pos hr, if_neg (fun e => hy e.symm)]
      · rw [if_neg hr])]
    simp
  have e1 : (T.map fun t => if R t then net ps has t else 0).sum = net ps has srcS := by
    rw [sum_one hT ((hmem srcS).2 List.mem_cons_self) _ (fun y _ hy => ?_)]
    · rw [if_pos h1]
    · by_cases he : y = endS
      · subst he; rw [h2]; rfl
      · split
        · exact f.keep y hy he
        · rfl
  rw [← e1]
  have e2 : (fun t => if R t then net ps has t else 0) = fun t => (ps.map fun q => (if R t then (if q.to = t then amt has q else 0) else 0) - (if R t then (if q.frm = t then amt has q else 0) else 0)).sum := by
    funext t
    by_cases ht : R t = true
    · simp only [ht, if_true]; rfl
    · rw [if_neg ht]; simp only [ht, Bool.false_eq_true, if_false]; exact (sum_zero ps _ fun _ _ => rfl).symm
  rw [e2, sum_swap]
  congr 1
  refine List.map_congr_left fun q hq => ?_
  rw [sum_sub, key q.to _ ((hmem _).2 (List.mem_cons_of_mem _ (List.mem_append_right _ (List.mem_map.2 ⟨q, hq, rfl⟩)))), key q.frm _ ((hmem _).2 (List.mem_cons_of_mem _ (List.mem_append_left _ (List.mem_map.2 ⟨q, hq, rfl⟩))))]

/-! ### the pipes of a net -/
section
variable {w r : Int} {l : List Thing} {ts : List Tie}
/-- What the pipes of a net are. -/
theorem laid_mem {q : Pipe} {v : Int} : (q, v) ∈ laidL w r l ts ↔ (∃ (i : Nat) (x : Thing), l[i]? = some x ∧ ((q = ⟨srcS, comeS i, -1⟩ ∧ v = w * x.weight) ∨ (q = ⟨comeS i, goS i, -1⟩ ∧ v = r * x.bears) ∨ (q = ⟨goS i, endS, -1⟩ ∧ v = r * x.bears ∧ x.ground = true))) ∨ ∃ (k : Nat) (t : Tie), ts[k]? = some t ∧ q = ⟨goS t.frm, comeS t.to, k⟩ ∧ v = r * t.most := by
  unfold laidL laidT
  simp only [List.mem_append, List.mem_flatMap, List.mem_map, Prod.exists, List.mem_zipIdx_iff_getElem?]
  constructor
  · rintro (⟨x, i, hx, h⟩ | ⟨t, k, ht, h⟩)
    · left
      refine ⟨i, x, hx, ?_⟩
      simp only [thP, List.mem_append, List.mem_cons, Prod.mk.injEq, List.not_mem_nil, or_false] at h
      rcases h with (h | h) | h
      · exact .inl h
      · exact .inr (.inl h)
      · split at h
        · simp only [List.mem_singleton, Prod.mk.injEq] at h
          exact .inr (.inr ⟨h.1, h.2, by assumption⟩)
        · cases h
    · right
      simp only [tiP, Prod.mk.injEq] at h
      exact ⟨k, t, ht, h.1.symm, h.2.symm⟩
  · rintro (⟨i, x, hx, h⟩ | ⟨k, t, ht, h⟩)
    · left
      refine ⟨x, i, hx, ?_⟩
      simp only [thP, List.mem_append, List.mem_cons, Prod.mk.injEq, List.not_mem_nil, or_false]
      rcases h with h | h | ⟨h1, h2, h3⟩
      · exact .inl (.inl h)
      · exact .inl (.inr h)
      · right; rw [if_pos h3]; simp [h1, h2]
    · right
      exact ⟨t, k, ht, by simp [tiP, h.1, h.2]⟩
/-- The sum over the pipes of a net. -/
theorem laid_sum (g : Pipe → Int → Int) : ((laidL w r l ts).map fun x => g x.1 x.2).sum = (l.zipIdx.map fun x => g ⟨srcS, comeS x.2, -1⟩ (w * x.1.weight) + g ⟨comeS x.2, goS x.2, -1⟩ (r * x.1.bears) + (if x.1.ground then g ⟨goS x.2, endS, -1⟩ (r * x.1.bears) else 0)).sum + (ts.zipIdx.map fun x => g ⟨goS x.1.frm, comeS x.1.to, x.2⟩ (r * x.1.most)).sum := by
  unfold laidL laidT
  rw [List.map_append, List.sum_append, List.map_map]
  congr 1
  induction l.zipIdx with
  | nil => rfl
  | cons a z ih =>
    simp only [List.flatMap_cons, List.map_append, List.sum_append, List.map_cons, List.sum_cons, ih]
    congr 1
    unfold thP
    split <;> simp [*] <;> omega

theorem tp_nodup : ∀ (l : List Thing) (k : Nat), (((l.zipIdx k).flatMap fun x => thP w r x.1 x.2).map Prod.fst).Nodup ∧ ∀ q ∈ ((l.zipIdx k).flatMap fun x => thP w r x.1 x.2).map Prod.fst, q.tie = -1 ∧ ∃ i : Nat, k ≤ i ∧ (q = ⟨srcS, comeS i, -1⟩ ∨ q = ⟨comeS i, goS i, -1⟩ ∨ q = ⟨goS i, endS, -1⟩)
  | [], k => by simp
  | x :: l, k => by
    obtain ⟨h1, h2⟩ := tp_nodup l (k + 1)
    have hp : ∀ q ∈ (thP w r x k).map Prod.fst, q = ⟨srcS, comeS k, -1⟩ ∨ q = ⟨comeS k, goS k, -1⟩ ∨ q = ⟨goS k, endS, -1⟩ := by
      intro q hq
      obtain ⟨⟨q', v⟩, h, rfl⟩ := List.mem_map.1 hq
      simp only [thP, List.mem_append, List.mem_cons, Prod.mk.injEq, List.not_mem_nil, or_false] at h
      rcases h with (h | h) | h
      · exact .inl h.1
      · exact .inr (.inl h.1)
      · split at h
        · simp only [List.mem_singleton, Prod.mk.injEq] at h; exact .inr (.inr h.1)
        · cases h
    have hn : ((thP w r x k).map Prod.fst).Nodup := by
      unfold thP
      split <;> simp [srcS, comeS, goS, endS]
    simp only [List.zipIdx_cons, List.flatMap_cons, List.map_append]
    refine ⟨List.nodup_append.2 ⟨hn, h1, fun a ha b hb e => ?_⟩, fun q hq => ?_⟩
    · subst e
      obtain ⟨_, i, hi, h3⟩ := h2 a hb
      have h4 := hp a ha
      rcases h4 with h4 | h4 | h4 <;> rcases h3 with h3 | h3 | h3 <;> rw [h4] at h3 <;> simp [srcS, comeS, goS, endS] at h3 <;> omega
    · rcases List.mem_append.1 hq with hq | hq
      · have := hp q hq
        refine ⟨?_, k, Nat.le_refl _, this⟩
        rcases this with h | h | h <;> rw [h]
      · obtain ⟨h3, i, hi, h4⟩ := h2 q hq
        exact ⟨h3, i, by omega, h4⟩
theorem ti_nodup : ∀ (ts : List Tie) (k : Nat), (((ts.zipIdx k).map fun t => tiP r t.1 t.2).map Prod.fst).Nodup ∧ ∀ q ∈ ((ts.zipIdx k).map fun t => tiP r t.1 t.2).map Prod.fst, (k : Int) ≤ q.tie
  | [], k => by simp
  | x :: l, k => by
    obtain ⟨h1, h2⟩ := ti_nodup l (k + 1)
    simp only [List.zipIdx_cons, List.map_cons]
    refine ⟨List.nodup_cons.2 ⟨fun hm => ?_, h1⟩, fun q hq => ?_⟩
    · have := h2 _ hm
      simp [tiP] at this; omega
    · rcases List.mem_cons.1 hq with rfl | hq
      · simp [tiP]
      · have := h2 q hq; omega
theorem laid_nodup : ((laidL w r l ts).map Prod.fst).Nodup := by
  unfold laidL
  rw [List.map_append, List.nodup_append]
  refine ⟨(tp_nodup l 0).1, (ti_nodup ts 0).1, fun a ha b hb e => ?_⟩
  subst e
  have h1 := ((tp_nodup l 0).2 a ha).1
  have h2 := (ti_nodup ts 0).2 a hb
  omega
theorem most_spec : ∀ (L : List (Pipe × Int)), (L.map Prod.fst).Nodup → ∀ q v, (q, v) ∈ L → amt (mostOf L) q = v := by
  intro L
  refine snoc_ind (M := fun L => (L.map Prod.fst).Nodup → ∀ q v, (q, v) ∈ L → amt (mostOf L) q = v) ?_ ?_ L
  · intro _ q v h; cases h
  · intro L x ih hn q v h
    rw [mostOf_snoc, amt_updF]
    rw [List.map_append, List.nodup_append] at hn
    rcases List.mem_append.1 h with h | h
    · have hne : q ≠ x.1 := fun e => hn.2.2 q (List.mem_map.2 ⟨(q, v), h, rfl⟩) x.1 (by simp) e
      rw [if_neg hne]; exact ih hn.1 q v h
    · simp only [List.mem_singleton] at h
      subst h; simp
theorem laid_most {q : Pipe} {v : Int} (h : (q, v) ∈ laidL w r l ts) : amt (mostOf (laidL w r l ts)) q = v := most_spec _ laid_nodup q v h
/-- A sum over the pipes, told by what they may hold. -/
theorem pipes_sum (g : Pipe → Int → Int) : (((laidL w r l ts).map Prod.fst).map fun q => g q (amt (mostOf (laidL w r l ts)) q)).sum = ((laidL w r l ts).map fun x => g x.1 x.2).sum := by
  rw [List.map_map]
  congr 1
  refine List.map_congr_left fun x hx => ?_
  simp only [Function.comp, laid_most (q := x.1) (v := x.2) hx]

theorem most_nonneg (gh : GoodTh l) (g : GoodTi l ts) (hw : 0 ≤ w) (hr : 0 ≤ r) {q : Pipe} (hq : q ∈ (laidL w r l ts).map Prod.fst) : 0 ≤ amt (mostOf (laidL w r l ts)) q := by
  obtain ⟨⟨q', v⟩, h, rfl⟩ := List.mem_map.1 hq
  rw [laid_most h]
  rcases laid_mem.1 h with ⟨i, x, hx, h | h | h⟩ | ⟨k, t, ht, h⟩
  · have := gh.weight x (List.mem_of_getElem? hx)
    rw [h.2]; exact Int.mul_nonneg hw this.1
  · have := gh.bears x (List.mem_of_getElem? hx)
    rw [h.2]; exact Int.mul_nonneg hr this.1
  · have := gh.bears x (List.mem_of_getElem? hx)
    rw [h.2.1]; exact Int.mul_nonneg hr this.1
  · have := g.most t (List.mem_of_getElem? ht)
    rw [h.2]; exact Int.mul_nonneg hr this.1
theorem flow_init (gh : GoodTh l) (g : GoodTi l ts) (hw : 0 ≤ w) (hr : 0 ≤ r) : FlowOk ((laidL w r l ts).map Prod.fst) (fun _ => none) (mostOf (laidL w r l ts)) :=
  ⟨laid_nodup, fun q hq => ⟨Int.le_refl _, most_nonneg gh g hw hr hq⟩, fun t _ _ => sum_zero _ _ fun q _ => by simp [amt]⟩

/-! ### cuts -/
def ct (c : List Int) (i : Int) : Int := c.getD i.toNat 0
def cutW (l : List Thing) (c : List Int) : Int := (l.zipIdx.map fun x => if ct c x.2 = 0 then 0 else x.1.weight).sum
def cutO (l : List Thing) (ts : List Tie) (c : List Int) : Int := (l.zipIdx.map fun x => if ct c x.2 = 1 then x.1.bears else 0).sum + (ts.map fun t => if ct c t.frm = 2 ∧ ct c t.to = 0 then t.most else 0).sum
structure CutOk (l : List Thing) (c : List Int) : Prop where
  len : c.length = l.length
  val : ∀ (i : Nat) x, l[i]? = some x → ct c i = 0 ∨ ct c i = 1 ∨ (ct c i = 2 ∧ x.ground = false)
/-- The set of spots of a cut. -/
def cutR (c : List Int) (t : Spot) : Bool := if t.a then decide (ct c t.t ≠ 0) else if t.b then decide (ct c t.t = 2) else decide (t.t = -1)
def srcSum (w : Int) (l : List Thing) : Int := (l.zipIdx.map fun x => w * x.1.weight).sum
theorem src_sum : ((laidL w r l ts).map fun x => if x.1.frm = srcS then x.2 else 0).sum = srcSum w l := by
  rw [laid_sum (fun q v => if q.frm = srcS then v else 0)]
  have e1 : (ts.zipIdx.map fun x => if (⟨goS x.1.frm, comeS x.1.to, x.2⟩ : Pipe).frm = srcS then r * x.1.most else 0).sum = 0 := sum_zero _ _ fun x _ => by simp [goS, srcS]
  rw [e1, Int.add_zero]
  unfold srcSum
  congr 1
  refine List.map_congr_left fun x _ => ?_
  simp [comeS, goS, srcS]
theorem net_src {has : Pipe → Option Int} : net ((laidL w r l ts).map Prod.fst) has srcS = - (((laidL w r l ts).map Prod.fst).map fun q => if q.frm = srcS then amt has q else 0).sum := by
  unfold net
  rw [sum_sub]
  have : ((((laidL w r l ts).map Prod.fst).map fun q => if q.to = srcS then amt has q else 0)).sum = 0 := by
    refine sum_zero _ _ fun q hq => ?_
    obtain ⟨⟨q', v⟩, h, rfl⟩ := List.mem_map.1 hq
    rcases laid_mem.1 h with ⟨i, x, hx, h | h | h⟩ | ⟨k, t, ht, h⟩ <;> rw [h.1] <;> simp [comeS, goS, srcS, endS]
  rw [this]; omega
theorem mem_zip {α : Type} {l : List α} {x : α × Nat} (h : x ∈ l.zipIdx) : l[x.2]? = some x.1 := List.mem_zipIdx_iff_getElem?.1 h
theorem map_zip_fst {α β : Type} (f : α → β) : ∀ (l : List α) (k : Nat), ((l.zipIdx k).map fun x => f x.1) = l.map f
  | [], _ => rfl
  | a :: l, k => by simp only [List.zipIdx_cons, List.map_cons, map_zip_fst f l (k + 1)]
/-- If all that the source has is led away, no cut breaks the net. -/
theorem full_cut {has : Pipe → Option Int} (gh : GoodTh l) (g : GoodTi l ts) (hw : 0 ≤ w) (hr : 0 ≤ r) (fo : FlowOk ((laidL w r l ts).map Prod.fst) has (mostOf (laidL w r l ts)))
    (full : ∀ q ∈ (laidL w r l ts).map Prod.fst, q.frm = srcS → ¬ amt has q < amt (mostOf (laidL w r l ts)) q) {c : List Int} (hc : CutOk l c) : w * cutW l c ≤ r * cutO l ts c := by
  have h1 := net_cut fo (cutR c) (by simp [cutR, srcS]) (by simp [cutR, endS])
  rw [net_src] at h1
  have h2 : (((laidL w r l ts).map Prod.fst).map fun q => if q.frm = srcS then amt has q else 0).sum = srcSum w l := by
    rw [← src_sum (r := r) (ts := ts), ← pipes_sum (fun q v => if q.frm = srcS then v else 0)]
    congr 1
    refine List.map_congr_left fun q hq => ?_
    by_cases e : q.frm = srcS
    · rw [if_pos e, if_pos e]
      have := full q hq e
      have := fo.rng q hq
      omega
    · rw [if_neg e, if_neg e]
  rw [h2] at h1
  -- what the set's pipes may lead out
  have h3 : (((laidL w r l ts).map Prod.fst).map fun q => (if cutR c q.to then amt has q else 0) - (if cutR c q.frm then amt has q else 0)).sum ≥ - (((laidL w r l ts).map Prod.fst).map fun q => if cutR c q.frm = true ∧ cutR c q.to = false then amt (mostOf (laidL w r l ts)) q else 0).sum := by
    rw [← sum_neg]
    refine sum_mono _ _ _ fun q hq => ?_
    have := fo.rng q hq
    cases ha : cutR c q.to <;> cases hb : cutR c q.frm <;> simp <;> omega
  rw [pipes_sum (fun q v => if cutR c q.frm = true ∧ cutR c q.to = false then v else 0), laid_sum (fun q v => if cutR c q.frm = true ∧ cutR c q.to = false then v else 0)] at h3
  have e0 : ∀ i : Int, cutR c (comeS i) = decide (ct c i ≠ 0) := fun i => rfl
  have e1 : ∀ i : Int, cutR c (goS i) = decide (ct c i = 2) := fun i => rfl
  have e2 : cutR c srcS = true := by simp [cutR, srcS]
  have h4 : (l.zipIdx.map fun x => (if cutR c (⟨srcS, comeS x.2, -1⟩ : Pipe).frm = true ∧ cutR c (⟨srcS, comeS x.2, -1⟩ : Pipe).to = false then w * x.1.weight else 0) + (if cutR c (⟨comeS x.2, goS x.2, -1⟩ : Pipe).frm = true ∧ cutR c (⟨comeS x.2, goS x.2, -1⟩ : Pipe).to = false then r * x.1.bears else 0) + (if x.1.ground then (if cutR c (⟨goS x.2, endS, -1⟩ : Pipe).frm = true ∧ cutR c (⟨goS x.2, endS, -1⟩ : Pipe).to = false then r * x.1.bears else 0) else 0)).sum = srcSum w l - w * cutW l c + r * (l.zipIdx.map fun x => if ct c x.2 = 1 then x.1.bears else 0).sum := by
    unfold srcSum cutW
    rw [← sum_mul, ← sum_mul, ← sum_sub, ← sum_add]
    congr 1
    refine List.map_congr_left fun x hx => ?_
    have hv := hc.val x.2 x.1 (mem_zip hx)
    simp only [e0, e1, e2]
    rcases hv with hv | hv | ⟨hv, hg⟩
    · simp [hv]
    · simp [hv]
    · simp [hv, hg]
  have h5 : (ts.zipIdx.map fun x => if cutR c (⟨goS x.1.frm, comeS x.1.to, x.2⟩ : Pipe).frm = true ∧ cutR c (⟨goS x.1.frm, comeS x.1.to, x.2⟩ : Pipe).to = false then r * x.1.most else 0).sum = r * (ts.map fun t => if ct c t.frm = 2 ∧ ct c t.to = 0 then t.most else 0).sum := by
    rw [← sum_mul]
    have : ts.zipIdx.map (fun x => (fun t : Tie => r * (if ct c t.frm = 2 ∧ ct c t.to = 0 then t.most else 0)) x.1) = ts.map fun t => r * (if ct c t.frm = 2 ∧ ct c t.to = 0 then t.most else 0) := by
      exact map_zip_fst (fun t : Tie => r * (if ct c t.frm = 2 ∧ ct c t.to = 0 then t.most else 0)) ts 0
    rw [← this]
    congr 1
    refine List.map_congr_left fun x _ => ?_
    simp only [e0, e1]
    by_cases a : ct c x.1.frm = 2 <;> by_cases b : ct c x.1.to = 0 <;> simp [a, b]
  rw [h4, h5] at h3
  unfold cutO
  rw [Int.mul_add]
  omega

/-- What the search says of spot t. -/
def rB (ps : List Pipe) (has most : Pipe → Option Int) (t : Spot) : Bool := (byOf (found ps has most) t).isSome
theorem rB_reach {ps : List Pipe} {has most : Pipe → Option Int} {t : Spot} : Reach ps has most t ↔ t = srcS ∨ rB ps has most t = true := by
  unfold Reach rB
  rw [Option.isSome_iff_ne_none]
def cutOf (n : Nat) (R : Spot → Bool) : List Int := (List.range n).map fun (i : Nat) => if R (comeS i) && R (goS i) then 2 else if R (comeS i) then 1 else 0
theorem ct_cutOf {n i : Nat} {R : Spot → Bool} (hi : i < n) : ct (cutOf n R) i = if R (comeS i) && R (goS i) then 2 else if R (comeS i) then 1 else 0 := by
  simp [ct, cutOf, hi]
open Classical in
theorem break_cut {has : Pipe → Option Int} (gh : GoodTh l) (g : GoodTi l ts) (hw : 0 ≤ w) (hr : 0 ≤ r) (fo : FlowOk ((laidL w r l ts).map Prod.fst) has (mostOf (laidL w r l ts)))
    (hend : byOf (found ((laidL w r l ts).map Prod.fst) has (mostOf (laidL w r l ts))) endS = none) (hnf : ∃ q ∈ (laidL w r l ts).map Prod.fst, q.frm = srcS ∧ amt has q < amt (mostOf (laidL w r l ts)) q) :
    CutOk l (cutOf l.length (rB ((laidL w r l ts).map Prod.fst) has (mostOf (laidL w r l ts)))) ∧ r * cutO l ts (cutOf l.length (rB ((laidL w r l ts).map Prod.fst) has (mostOf (laidL w r l ts)))) < w * cutW l (cutOf l.length (rB ((laidL w r l ts).map Prod.fst) has (mostOf (laidL w r l ts)))) := by
  generalize hps : (laidL w r l ts).map Prod.fst = ps at *
  generalize hmo : mostOf (laidL w r l ts) = most at *
  have hmost : ∀ q v, (q, v) ∈ laidL w r l ts → q ∈ ps ∧ amt most q = v := fun q v h => ⟨by rw [← hps]; exact List.mem_map.2 ⟨_, h, rfl⟩, by rw [← hmo]; exact laid_most h⟩
  have hmem : ∀ q ∈ ps, ∃ v, (q, v) ∈ laidL w r l ts := fun q hq => by
    rw [← hps] at hq
    obtain ⟨⟨q', v⟩, h, rfl⟩ := List.mem_map.1 hq
    exact ⟨v, h⟩
  have hsrc : ∀ i : Int, comeS i ≠ srcS ∧ goS i ≠ srcS := fun i => by simp [comeS, goS, srcS]
  have nend : ¬ Reach ps has most endS := by
    rw [rB_reach]
    rintro (h | h)
    · simp [endS, srcS] at h
    · rw [rB, hend] at h; cases h
  -- no pipe leads on from what is reached
  have fwd : ∀ q ∈ ps, Reach ps has most q.frm → ¬ Reach ps has most q.to → amt has q = amt most q := fun q hq h1 h2 => by
    have hrg := fo.rng q hq
    by_cases e : amt most q - amt has q > 0
    · exfalso
      have : (⟨q, false, amt most q - amt has q⟩ : Step) ∈ stepsAt has most ps q.frm := by
        simp only [stepsAt, List.mem_flatMap]
        exact ⟨q, hq, by unfold stepsOf; rw [if_pos ⟨rfl, e⟩]; simp⟩
      have := reach_step h1 this
      rw [Step.leads_eq] at this
      exact h2 (by simpa using this)
    · omega
  have bwd : ∀ q ∈ ps, ¬ Reach ps has most q.frm → Reach ps has most q.to → amt has q = 0 := fun q hq h1 h2 => by
    have hrg := fo.rng q hq
    by_cases e : amt has q > 0
    · exfalso
      have : (⟨q, true, amt has q⟩ : Step) ∈ stepsAt has most ps q.to := by
        simp only [stepsAt, List.mem_flatMap]
        exact ⟨q, hq, by unfold stepsOf; rw [if_pos (⟨rfl, e⟩ : q.to = q.to ∧ amt has q > 0)]; simp⟩
      have := reach_step h2 this
      rw [Step.leads_eq] at this
      exact h1 (by simpa using this)
    · omega
  -- what hangs on nothing isn't carried on
  have nogo : ∀ (i : Nat) x, l[i]? = some x → x.ground = true → ¬ Reach ps has most (goS i) := by
    intro i x hx hgr hre
    have m1 := hmost ⟨comeS i, goS i, -1⟩ (r * x.bears) (laid_mem.2 (.inl ⟨i, x, hx, .inr (.inl ⟨rfl, rfl⟩)⟩))
    have m2 := hmost ⟨goS i, endS, -1⟩ (r * x.bears) (laid_mem.2 (.inl ⟨i, x, hx, .inr (.inr ⟨rfl, rfl, hgr⟩)⟩))
    have e2 := fwd _ m2.1 hre nend
    -- the pipes at this spot
    have ato : ∀ q ∈ ps, q.to = goS i → q = ⟨comeS i, goS i, -1⟩ := by
      intro q hq hto
      obtain ⟨v, hv⟩ := hmem q hq
      rcases laid_mem.1 hv with ⟨k, y, hy, h | h | h⟩ | ⟨k, t, ht, h⟩ <;> rw [h.1] at hto ⊢ <;> simp [comeS, goS, endS] at hto ⊢
      exact hto
    have afr : ∀ q ∈ ps, q.frm = goS i → q = ⟨goS i, endS, -1⟩ := by
      intro q hq hfr
      obtain ⟨v, hv⟩ := hmem q hq
      rcases laid_mem.1 hv with ⟨k, y, hy, h | h | h⟩ | ⟨k, t, ht, h⟩ <;> rw [h.1] at hfr ⊢ <;> simp [comeS, goS, endS, srcS] at hfr ⊢
      · exact hfr
      · have := g.hang t (List.mem_of_getElem? ht) x (by rw [hfr]; simpa using hx)
        rw [hgr] at this; cases this
    have hnet := fo.keep (goS i) (hsrc i).2 (by simp [goS, endS])
    unfold net at hnet
    rw [sum_two fo.nodup m1.1 m2.1 (by simp [comeS, goS]) _ (fun q hq h1 h2 => by
      rw [if_neg (fun e => h1 (ato q hq e)), if_neg (fun e => h2 (afr q hq e))]; rfl)] at hnet
    simp [comeS, goS, endS] at hnet
    have e1 : amt has ⟨comeS i, goS i, -1⟩ = amt has ⟨goS i, endS, -1⟩ := by simp only [comeS, goS, endS]; omega
    obtain ⟨y, hy, s, hs, hl⟩ := reach_from hre (hsrc i).2
    have hb := steps_begin hs
    rw [Step.leads_eq] at hl
    cases hbk : s.back with
    | false =>
      rw [hbk] at hl
      have hq := ato s.p hb.2.1 (by simpa using hl)
      have hf := hb.2.2.2
      rw [hbk, hq, m1.2] at hf
      have hpos := hb.2.2.1
      rw [m2.2] at e2
      simp at hf
      omega
    | true =>
      rw [hbk] at hl
      have hq := afr s.p hb.2.1 (by simpa using hl)
      have h1 := hb.1
      rw [Step.begins_eq, hbk, hq] at h1
      simp at h1
      exact nend (h1 ▸ hy)
  have rcome : ∀ i : Int, Reach ps has most (comeS i) ↔ rB ps has most (comeS i) = true := fun i => by rw [rB_reach]; exact or_iff_right (hsrc i).1
  have rgo : ∀ i : Int, Reach ps has most (goS i) ↔ rB ps has most (goS i) = true := fun i => by rw [rB_reach]; exact or_iff_right (hsrc i).2
  have hok : CutOk l (cutOf l.length (rB ps has most)) := by
    refine ⟨by simp [cutOf], fun i x hx => ?_⟩
    have hi := (List.getElem?_eq_some_iff.1 hx).1
    rw [ct_cutOf hi]
    cases h1 : rB ps has most (comeS i) <;> cases h2 : rB ps has most (goS i) <;> simp
    cases hgr : x.ground with
    | false => rfl
    | true => exact absurd ((rgo i).2 h2) (nogo i x hx hgr)
  refine ⟨hok, ?_⟩
  have psum : ∀ f : Pipe → Int → Int, (ps.map fun q => f q (amt most q)).sum = ((laidL w r l ts).map fun x => f x.1 x.2).sum := fun f => by rw [← hps, ← hmo]; exact pipes_sum f
  have nsrc : net ps has srcS = - (ps.map fun q => if q.frm = srcS then amt has q else 0).sum := by rw [← hps]; exact net_src
  have hRB : ∀ t, (decide (t = srcS) || rB ps has most t) = true ↔ Reach ps has most t := fun t => by rw [rB_reach]; simp
  have h1 := net_cut fo (fun t => decide (t = srcS) || rB ps has most t) (by simp) (by
    cases h : (decide (endS = srcS) || rB ps has most endS) with
    | false => rfl
    | true => exact absurd ((hRB _).1 h) nend)
  have h2 : (ps.map fun q => (if (decide (q.to = srcS) || rB ps has most q.to) = true then amt has q else 0) - (if (decide (q.frm = srcS) || rB ps has most q.frm) = true then amt has q else 0)).sum = - (ps.map fun q => if Reach ps has most q.frm ∧ ¬ Reach ps has most q.to then amt most q else 0).sum := by
    rw [← sum_neg]
    congr 1
    refine List.map_congr_left fun q hq => ?_
    simp only [hRB]
    by_cases a : Reach ps has most q.frm <;> by_cases b : Reach ps has most q.to
    · simp [a, b]
    · simp [a, b, fwd q hq a b]
    · simp [a, b, bwd q hq a b]
    · simp [a, b]
  rw [h2, nsrc] at h1
  have h3 : (ps.map fun q => if q.frm = srcS then amt has q else 0).sum < srcSum w l := by
    rw [← src_sum (r := r) (ts := ts), ← psum (fun q v => if q.frm = srcS then v else 0)]
    obtain ⟨q, hq, e1, e2⟩ := hnf
    refine sum_lt ps _ _ (fun q hq => ?_) hq ?_
    · have := fo.rng q hq
      split <;> omega
    · rw [if_pos e1, if_pos e1]; exact e2
  rw [psum (fun q v => if Reach ps has most q.frm ∧ ¬ Reach ps has most q.to then v else 0), laid_sum (fun q v => if Reach ps has most q.frm ∧ ¬ Reach ps has most q.to then v else 0)] at h1
  have rsrc : Reach ps has most srcS := .inl rfl
  have h4 : (l.zipIdx.map fun x => (w * x.1.weight - w * (if ct (cutOf l.length (rB ps has most)) x.2 = 0 then 0 else x.1.weight)) + r * (if ct (cutOf l.length (rB ps has most)) x.2 = 1 then x.1.bears else 0)).sum ≤
      (l.zipIdx.map fun x => (if Reach ps has most (⟨srcS, comeS x.2, -1⟩ : Pipe).frm ∧ ¬ Reach ps has most (⟨srcS, comeS x.2, -1⟩ : Pipe).to then w * x.1.weight else 0) + (if Reach ps has most (⟨comeS x.2, goS x.2, -1⟩ : Pipe).frm ∧ ¬ Reach ps has most (⟨comeS x.2, goS x.2, -1⟩ : Pipe).to then r * x.1.bears else 0) + (if x.1.ground then (if Reach ps has most (⟨goS x.2, endS, -1⟩ : Pipe).frm ∧ ¬ Reach ps has most (⟨goS x.2, endS, -1⟩ : Pipe).to then r * x.1.bears else 0) else 0)).sum := by
    refine sum_mono _ _ _ fun x hx => ?_
    have hxi := mem_zip hx
    have hi := (List.getElem?_eq_some_iff.1 hxi).1
    have hrb : 0 ≤ r * x.1.bears := Int.mul_nonneg hr (gh.bears x.1 (List.mem_of_getElem? hxi)).1
    have hww : 0 ≤ w * x.1.weight := Int.mul_nonneg hw (gh.weight x.1 (List.mem_of_getElem? hxi)).1
    rw [ct_cutOf hi]
    simp only [rsrc, nend, rcome, rgo, true_and, not_false_eq_true, and_true]
    have hlast : 0 ≤ (if x.1.ground = true then (if rB ps has most (goS x.2) = true then r * x.1.bears else 0) else 0) := by
      split
      · split <;> omega
      · omega
    cases a : rB ps has most (comeS x.2) <;> cases b : rB ps has most (goS x.2) <;> simp [a, b] at hlast ⊢ <;> omega
  have h5 : (ts.map fun t => r * (if ct (cutOf l.length (rB ps has most)) t.frm = 2 ∧ ct (cutOf l.length (rB ps has most)) t.to = 0 then t.most else 0)).sum ≤
      (ts.zipIdx.map fun x => if Reach ps has most (⟨goS x.1.frm, comeS x.1.to, x.2⟩ : Pipe).frm ∧ ¬ Reach ps has most (⟨goS x.1.frm, comeS x.1.to, x.2⟩ : Pipe).to then r * x.1.most else 0).sum := by
    rw [← map_zip_fst (fun t : Tie => r * (if ct (cutOf l.length (rB ps has most)) t.frm = 2 ∧ ct (cutOf l.length (rB ps has most)) t.to = 0 then t.most else 0)) ts 0]
    refine sum_mono _ _ _ fun x hx => ?_
    have hxm := List.mem_of_getElem? (mem_zip hx)
    have hf := g.frm _ hxm
    have ht := g.to _ hxm
    have hrm : 0 ≤ r * x.1.most := Int.mul_nonneg hr (g.most _ hxm).1
    have ef := ct_cutOf (n := l.length) (i := x.1.frm.toNat) (R := rB ps has most) (by omega)
    have et := ct_cutOf (n := l.length) (i := x.1.to.toNat) (R := rB ps has most) (by omega)
    have e1 : ((x.1.frm.toNat : Nat) : Int) = x.1.frm := by omega
    have e2 : ((x.1.to.toNat : Nat) : Int) = x.1.to := by omega
    rw [e1] at ef
    rw [e2] at et
    simp only [ef, et, rcome, rgo]
    cases a : rB ps has most (comeS x.1.frm) <;> cases b : rB ps has most (goS x.1.frm) <;> cases c : rB ps has most (comeS x.1.to) <;> cases d : rB ps has most (goS x.1.to) <;> simp <;> omega
  have h6 : (l.zipIdx.map fun x => w * x.1.weight).sum = srcSum w l := rfl
  rw [sum_add, sum_sub, h6, sum_mul, sum_mul] at h4
  rw [sum_mul] at h5
  unfold cutO cutW
  rw [Int.mul_add]
  omega
end
end Go.Proofs.YtankmjkogcbnfaaDoor
/-
  fix.tried: whether a net bears, and a cut that breaks it.
-/
namespace Go.Proofs.YtankmjkogcbnfaaDoor
open Go Go.SL Go.Conc
theorem at_heapW {P : Program} {S : LH → Goroutine → Prop} {b : Base} {cs : List Frame} {l : Array Oper} {Fin : Env → List Deferred → LH → Prop} {os : List Oper} {E : Env} {ds : List Deferred} {h : LH} (F : LH → Prop) (x : F h) (k : ∀ h, F h → WL P S b cs l Fin os E ds h) : WL P S b cs l Fin os E ds h := k h x
/-- The numbers of a cut. -/
def cutC (c : List Int) : List (List Value) := c.map fun z => [.int .i64 z]
theorem cutC_len {c : List Int} : (cutC c).length = c.length := by simp [cutC]
theorem cutOf_snoc {n : Nat} {R : Spot → Bool} : cutOf (n + 1) R = cutOf n R ++ [if R (comeS n) && R (goS n) then 2 else if R (comeS n) then 1 else 0] := by
  simp [cutOf, List.range_succ]
theorem sgl1 {z : Int} : Sgl [[Value.int .i64 z]].flatten := by
  unfold Sgl; intro v hv; simp at hv; subst hv; rfl
def lack (ps : List Pipe) (has most : Pipe → Option Int) : Bool := ps.any fun q => decide (q.frm = srcS) && decide (amt has q < amt most q)
theorem lack_t {ps : List Pipe} {has most : Pipe → Option Int} (h : lack ps has most = true) : ∃ q ∈ ps, q.frm = srcS ∧ amt has q < amt most q := by
  unfold lack at h
  rw [List.any_eq_true] at h
  obtain ⟨q, hq, h⟩ := h
  simp only [Bool.and_eq_true, decide_eq_true_eq] at h
  exact ⟨q, hq, h⟩
theorem lack_f {ps : List Pipe} {has most : Pipe → Option Int} (h : lack ps has most = false) : ∀ q ∈ ps, q.frm = srcS → ¬ amt has q < amt most q := fun q hq h1 h2 => by
  have : lack ps has most = true := by
    unfold lack
    rw [List.any_eq_true]
    exact ⟨q, hq, by simp [h1, h2]⟩
  rw [h] at this; cases this
theorem ext_fr {h h2 h3 : LH} {rh : Nat} (fr : ∀ b o, HG h2 b o → b ≠ rh → HG h3 b o) (ow : ∀ b, Own h2 b → Own h3 b) (x : Ext h h2) (n : ∀ b o, HG h b o → b ≠ rh) (hg : h3.gh = h.gh) : Ext h h3 :=
  ⟨fun b o hb => fr b o (x.get b o hb) (n b o hb), fun b hb => ow b (x.own b hb), hg⟩
theorem some_of {h h' : LH} (x : Ext h h') {b : Nat} {o : Obj} (hb : HG h b o) : h'.get b ≠ none := by
  rw [x.get b o hb]; simp
theorem slw_one {h : LH} {v : Value} {xs : List (List Value)} (w : SlW h 1 v xs) {i : Nat} (hi : i < xs.length) : ∃ y, xs[i]? = some [y] := by
  have hl := w.1 xs[i] (List.getElem_mem hi)
  match hx : xs[i], hl with
  | [y], _ => exact ⟨y, by rw [List.getElem?_eq_getElem hi, hx]⟩
attribute [local irreducible] putE ofL Look Nth Ev HG Own SubL Wr Sgl EvL LH.upd WL OpS Any Con PopW Pop
theorem c83 {α : Type} {toC : α → List Value} {l : List α} {p : α → Bool} {h : LH} {v : Value} {g : FuncId} {cap : List Value} [GoC Tryd.prog g] [hs : SlC h 7 v (l.map toC)] (hn : l.length ≤ 4611686018427387904) (hq : ∀ x ∈ l, ∀ (h' : LH) [Ext0 h h'], FnC Tryd.prog g (.agg (toC x).toArray :: cap) h' (.bool (p x))) : FnC Tryd.prog 83 [v, .func (.func g) #[] cap.toArray] h (.bool (l.any p)) := by
  have hs' : SlAt h 7 v (l.map toC) := ⟨hs.out⟩
  have := c123 (h := h) (v := v) (g := g) (cap := cap) (xs := l.map toC) (q := anyI p l) (by simpa using hn) (fun i cs h' hi hx => by
    obtain ⟨x, hx1, rfl⟩ : ∃ x, l[i]? = some x ∧ toC x = cs := by have := hi.out; simpa using this
    simp only [anyI, hx1]
    exact hq x (List.mem_of_getElem? hx1) h')
  rw [List.length_map] at this
  refine ⟨Con.intro (m := 2) Tryd.func83 rfl Tryd.ntmps83 rfl (by decide) ?_⟩
  intro main S hS c cs hc
  repeat' (first | (first | refine hS.seq ?_ | refine hS.regionW ?_ | refine W.pop ?_ | refine W.yes ?_ | refine W.no ?_ | refine W.box (fun _ _ => ?_) | refine W.alloc (fun _ _ => ?_) | refine W.store ?_ | refine W.bs (fun _ _ => ?_) | refine W.fn hS (fun _ _ => ?_) | refine WL.nil ?_ | refine R.condT hS ?_ | refine R.condF hS ?_ | refine hS.skip ?_ | refine hS.block ?_ | refine hS.inBlock ?_ | refine R.ret hS ?_ | refine R.fin hS ?_ | refine R.begin hS ?_ | refine R.endRound hS ?_ | refine R.retRound hS ?_ | refine R.retC hS ?_ | refine R.endRangeDone hS ?_ | refine R.endRangeRet hS ?_) | refine W.split (fun _ => ?_) (fun _ => ?_) | refine R.cond hS (fun _ => ?_) (fun _ => ?_))
  refine hc _ _ ⟨?_, Ext0.out⟩
  simp only [resOf, Value.bool.injEq]
  exact any_of2 (l := l) (p := p)
instance c84 {q : Pipe} {bp p rh rm : Nat} {sl : Value} {t1 t2 : TypeId} {eh em : Array MapEntry} {ch cm : Nat} {has most : Pipe → Option Int} {h : LH} [h1 : HgAt h bp (.cells (List.toArray [.pointer (some ⟨p, 0, none⟩)]) t1 (0, 0))] [h2 : HgAt h p (.cells (List.toArray [sl, .map (some rh), .map (some rm)]) t2 (0, 0))] [h3 : HgAt h rh (.map eh ch)] [hm3 : MiC pipeK intK eh ch has] [h4 : HgAt h rm (.map em cm)] [hm4 : MiC pipeK intK em cm most]
    [g0 : HgAt h 0 (.cells (List.toArray [.int .i64 (-1), .bool false, .bool false]) 206 (0, 0))] :
    FnC Tryd.prog 84 [.agg (List.toArray [.int .i64 q.frm.t, .bool q.frm.a, .bool q.frm.b, .int .i64 q.to.t, .bool q.to.a, .bool q.to.b, .int .i64 q.tie]), .pointer (some ⟨bp, 0, none⟩)] h (.bool (decide (q.frm = srcS) && decide (amt has q < amt most q))) := by
  refine ⟨Con.intro (m := 2) Tryd.func84 rfl Tryd.ntmps84 rfl (by decide) ?_⟩
  intro main S hS c cs hc
  by_cases hq : q.frm = srcS
  · have tt : IsC (decide ((⟨q.frm.t, q.frm.a, q.frm.b⟩ : Spot) = ⟨-1, false, false⟩)) true := ⟨decide_eq_true hq⟩
    repeat (first | refine hS.seq ?_ | refine hS.regionW ?_ | refine W.pop ?_ | refine W.yes ?_ | refine W.no ?_ | refine W.box (fun _ _ => ?_) | refine W.alloc (fun _ _ => ?_) | refine W.store ?_ | refine W.bs (fun _ _ => ?_) | refine W.fn hS (fun _ _ => ?_) | refine WL.nil ?_ | refine R.condT hS ?_ | refine R.condF hS ?_ | refine hS.skip ?_ | refine hS.block ?_ | refine hS.inBlock ?_ | refine R.ret hS ?_ | refine R.fin hS ?_ | refine R.begin hS ?_ | refine R.endRound hS ?_ | refine R.retRound hS ?_ | refine R.retC hS ?_ | refine R.endRangeDone hS ?_ | refine R.endRangeRet hS ?_)
    refine hS.regionA mixed [] ?_
    refine A.take 0 rfl (by kernel_rfl) (by intro _ _ e; cases e) ?_
    refine A.take 1 rfl (by kernel_rfl) (by intro _ _ e; cases e) ?_
    refine A.take 2 rfl (by kernel_rfl) (by intro _ _ e; cases e) ?_
    refine A.take 3 rfl (by kernel_rfl) (by intro _ _ e; cases e) ?_
    refine A.take 4 rfl (by kernel_rfl) (by intro _ _ e; cases e) ?_
    first | (refine A.takeN 5 rfl (by kernel_rfl) (by intro _ _ e; cases e) ?_) | (refine A.takeY 5 rfl (by kernel_rfl) (by intro _ _ e; cases e) ?_)
    first | (refine A.takeN 6 rfl (by kernel_rfl) (by intro _ _ e; cases e) ?_) | (refine A.takeY 6 rfl (by kernel_rfl) (by intro _ _ e; cases e) ?_)
    first | (refine A.takeN 7 rfl (by kernel_rfl) (by intro _ _ e; cases e) ?_) | (refine A.takeY 7 rfl (by kernel_rfl) (by intro _ _ e; cases e) ?_)
    first | (refine A.takeN 8 rfl (by kernel_rfl) (by intro _ _ e; cases e) ?_) | (refine A.takeY 8 rfl (by kernel_rfl) (by intro _ _ e; cases e) ?_)
    first | (refine A.takeN 9 rfl (by kernel_rfl) (by intro _ _ e; cases e) ?_) | (refine A.takeY 9 rfl (by kernel_rfl) (by intro _ _ e; cases e) ?_)
    first | (refine A.takeN 10 rfl (by kernel_rfl) (by intro _ _ e; cases e) ?_) | (refine A.takeY 10 rfl (by kernel_rfl) (by intro _ _ e; cases e) ?_)
    first | (refine A.takeN 11 rfl (by kernel_rfl) (by intro _ _ e; cases e) ?_) | (refine A.takeY 11 rfl (by kernel_rfl) (by intro _ _ e; cases e) ?_)
    first | (refine A.takeN 12 rfl (by kernel_rfl) (by intro _ _ e; cases e) ?_) | (refine A.takeY 12 rfl (by kernel_rfl) (by intro _ _ e; cases e) ?_)
    first | (refine A.takeN 13 rfl (by kernel_rfl) (by intro _ _ e; cases e) ?_) | (refine A.takeY 13 rfl (by kernel_rfl) (by intro _ _ e; cases e) ?_)
    first | (refine A.takeN 14 rfl (by kernel_rfl) (by intro _ _ e; cases e) ?_) | (refine A.takeY 14 rfl (by kernel_rfl) (by intro _ _ e; cases e) ?_)
    first | (refine A.takeN 15 rfl (by kernel_rfl) (by intro _ _ e; cases e) ?_) | (refine A.takeY 15 rfl (by kernel_rfl) (by intro _ _ e; cases e) ?_)
    first | (refine A.takeN 16 rfl (by kernel_rfl) (by intro _ _ e; cases e) ?_) | (refine A.takeY 16 rfl (by kernel_rfl) (by intro _ _ e; cases e) ?_)
    first | (refine A.takeN 17 rfl (by kernel_rfl) (by intro _ _ e; cases e) ?_) | (refine A.takeY 17 rfl (by kernel_rfl) (by intro _ _ e; cases e) ?_)
    refine A.take 18 rfl (by kernel_rfl) (by intro _ _ e; cases e) ?_
    refine A.take 19 rfl (by kernel_rfl) (by intro _ _ e; cases e) ?_
    refine Any.done (by kernel_rfl) ?_
    repeat (first | refine hS.seq ?_ | refine hS.regionW ?_ | refine W.pop ?_ | refine W.yes ?_ | refine W.no ?_ | refine W.box (fun _ _ => ?_) | refine W.alloc (fun _ _ => ?_) | refine W.store ?_ | refine W.bs (fun _ _ => ?_) | refine W.fn hS (fun _ _ => ?_) | refine WL.nil ?_ | refine R.condT hS ?_ | refine R.condF hS ?_ | refine hS.skip ?_ | refine hS.block ?_ | refine hS.inBlock ?_ | refine R.ret hS ?_ | refine R.fin hS ?_ | refine R.begin hS ?_ | refine R.endRound hS ?_ | refine R.retRound hS ?_ | refine R.retC hS ?_ | refine R.endRangeDone hS ?_ | refine R.endRangeRet hS ?_)
    refine hc _ _ ⟨?_, Ext0.out⟩
    rw [decide_eq_true hq, Bool.true_and]
    rfl
  · have tt : IsC (decide ((⟨q.frm.t, q.frm.a, q.frm.b⟩ : Spot) = ⟨-1, false, false⟩)) false := ⟨decide_eq_false hq⟩
    repeat (first | refine hS.seq ?_ | refine hS.regionW ?_ | refine W.pop ?_ | refine W.yes ?_ | refine W.no ?_ | refine W.box (fun _ _ => ?_) | refine W.alloc (fun _ _ => ?_) | refine W.store ?_ | refine W.bs (fun _ _ => ?_) | refine W.fn hS (fun _ _ => ?_) | refine WL.nil ?_ | refine R.condT hS ?_ | refine R.condF hS ?_ | refine hS.skip ?_ | refine hS.block ?_ | refine hS.inBlock ?_ | refine R.ret hS ?_ | refine R.fin hS ?_ | refine R.begin hS ?_ | refine R.endRound hS ?_ | refine R.retRound hS ?_ | refine R.retC hS ?_ | refine R.endRangeDone hS ?_ | refine R.endRangeRet hS ?_)
    refine hS.regionA mixed [] ?_
    refine A.take 0 rfl (by kernel_rfl) (by intro _ _ e; cases e) ?_
    refine A.take 1 rfl (by kernel_rfl) (by intro _ _ e; cases e) ?_
    refine A.take 2 rfl (by kernel_rfl) (by intro _ _ e; cases e) ?_
    refine A.take 3 rfl (by kernel_rfl) (by intro _ _ e; cases e) ?_
    refine A.take 4 rfl (by kernel_rfl) (by intro _ _ e; cases e) ?_
    first | (refine A.takeN 5 rfl (by kernel_rfl) (by intro _ _ e; cases e) ?_) | (refine A.takeY 5 rfl (by kernel_rfl) (by intro _ _ e; cases e) ?_)
    first | (refine A.takeN 6 rfl (by kernel_rfl) (by intro _ _ e; cases e) ?_) | (refine A.takeY 6 rfl (by kernel_rfl) (by intro _ _ e; cases e) ?_)
    first | (refine A.takeN 7 rfl (by kernel_rfl) (by intro _ _ e; cases e) ?_) | (refine A.takeY 7 rfl (by kernel_rfl) (by intro _ _ e; cases e) ?_)
    first | (refine A.takeN 8 rfl (by kernel_rfl) (by intro _ _ e; cases e) ?_) | (refine A.takeY 8 rfl (by kernel_rfl) (by intro _ _ e; cases e) ?_)
    first | (refine A.takeN 9 rfl (by kernel_rfl) (by intro _ _ e; cases e) ?_) | (refine A.takeY 9 rfl (by kernel_rfl) (by intro _ _ e; cases e) ?_)
    first | (refine A.takeN 10 rfl (by kernel_rfl) (by intro _ _ e; cases e) ?_) | (refine A.takeY 10 rfl (by kernel_rfl) (by intro _ _ e; cases e) ?_)
    first | (refine A.takeN 11 rfl (by kernel_rfl) (by intro _ _ e; cases e) ?_) | (refine A.takeY 11 rfl (by kernel_rfl) (by intro _ _ e; cases e) ?_)
    first | (refine A.takeN 12 rfl (by kernel_rfl) (by intro _ _ e; cases e) ?_) | (refine A.takeY 12 rfl (by kernel_rfl) (by intro _ _ e; cases e) ?_)
    first | (refine A.takeN 13 rfl (by kernel_rfl) (by intro _ _ e; cases e) ?_) | (refine A.takeY 13 rfl (by kernel_rfl) (by intro _ _ e; cases e) ?_)
    first | (refine A.takeN 14 rfl (by kernel_rfl) (by intro _ _ e; cases e) ?_) | (refine A.takeY 14 rfl (by kernel_rfl) (by intro _ _ e; cases e) ?_)
    first | (refine A.takeN 15 rfl (by kernel_rfl) (by intro _ _ e; cases e) ?_) | (refine A.takeY 15 rfl (by kernel_rfl) (by intro _ _ e; cases e) ?_)
    first | (refine A.takeN 16 rfl (by kernel_rfl) (by intro _ _ e; cases e) ?_) | (refine A.takeY 16 rfl (by kernel_rfl) (by intro _ _ e; cases e) ?_)
    first | (refine A.takeN 17 rfl (by kernel_rfl) (by intro _ _ e; cases e) ?_) | (refine A.takeY 17 rfl (by kernel_rfl) (by intro _ _ e; cases e) ?_)
    refine A.take 18 rfl (by kernel_rfl) (by intro _ _ e; cases e) ?_
    refine A.take 19 rfl (by kernel_rfl) (by intro _ _ e; cases e) ?_
    refine Any.done (by kernel_rfl) ?_
    repeat (first | refine hS.seq ?_ | refine hS.regionW ?_ | refine W.pop ?_ | refine W.yes ?_ | refine W.no ?_ | refine W.box (fun _ _ => ?_) | refine W.alloc (fun _ _ => ?_) | refine W.store ?_ | refine W.bs (fun _ _ => ?_) | refine W.fn hS (fun _ _ => ?_) | refine WL.nil ?_ | refine R.condT hS ?_ | refine R.condF hS ?_ | refine hS.skip ?_ | refine hS.block ?_ | refine hS.inBlock ?_ | refine R.ret hS ?_ | refine R.fin hS ?_ | refine R.begin hS ?_ | refine R.endRound hS ?_ | refine R.retRound hS ?_ | refine R.retC hS ?_ | refine R.endRangeDone hS ?_ | refine R.endRangeRet hS ?_)
    refine hc _ _ ⟨?_, Ext0.out⟩
    rw [decide_eq_false hq, Bool.false_and]
    rfl

theorem c39 {l : List Thing} {ts : List Tie} {v w' : Value} {w r : Int} {h : LH} (hgh : h.gh = []) [sv : SingleC v] [sw : SingleC w'] [hs : SlC h 4 v (l.map Thing.c)] [hw : SlC h 3 w' (ts.map Tie.c)]
    (z0 : HG h 0 (.cells (List.toArray [.int .i64 (-1), .bool false, .bool false]) 206 (0, 0))) (z1 : HG h 1 (.cells (List.toArray [.int .i64 (-2), .bool false, .bool false]) 206 (0, 0)))
    (gh : GoodTh l) (g : GoodTi l ts) (hw0 : 0 ≤ w) (hr0 : 0 ≤ r) (hbw : ∀ x ∈ l, w * x.weight ≤ 1000000000000000) (hbb : ∀ x ∈ l, r * x.bears ≤ 1000000000000000) (hbt : ∀ t ∈ ts, r * t.most ≤ 1000000000000000) :
    ConM Tryd.prog 39 [.agg (List.toArray [v, w']), .int .i64 w, .int .i64 r] h (fun rr h' => Ext h h' ∧ ∃ sh cu ok, rr = .tuple (List.toArray [sh, cu, .bool ok]) ∧ (ok = true → ∀ c, CutOk l c → w * cutW l c ≤ r * cutO l ts c) ∧ (ok = false → ∃ c, CutOk l c ∧ r * cutO l ts c < w * cutW l c ∧ SlE h' 1 cu (cutC c))) := by
  have hs' : SlAt h 4 v (l.map Thing.c) := ⟨hs.out⟩
  have hw' : SlAt h 3 w' (ts.map Tie.c) := ⟨hw.out⟩
  have y0 : HgAt h 0 _ := ⟨z0⟩
  have y1 : HgAt h 1 _ := ⟨z1⟩
  have hl24 := gh.len
  have ht64 := g.len
  refine ConM.intro (m := 3) Tryd.func39 rfl Tryd.ntmps39 rfl (by decide) ?_
  intro S hM cc cs hc
  have hS := hM.reg
  repeat (first | refine hS.seq ?_ | refine hS.regionW ?_ | refine W.pop ?_ | refine W.yes ?_ | refine W.no ?_ | refine W.box (fun _ _ => ?_) | refine W.alloc (fun _ _ => ?_) | refine W.store ?_ | refine W.bs (fun _ _ => ?_) | refine W.fn hS (fun _ _ => ?_) | refine WL.nil ?_ | refine R.condT hS ?_ | refine R.condF hS ?_ | refine hS.skip ?_ | refine hS.block ?_ | refine hS.inBlock ?_ | refine R.ret hS ?_ | refine R.fin hS ?_ | refine R.begin hS ?_ | refine R.endRound hS ?_ | refine R.retRound hS ?_ | refine R.retC hS ?_ | refine R.endRangeDone hS ?_ | refine R.endRangeRet hS ?_)
  rename_i q3 f3
  have y0' : HgAt (h.upd q3 (.cells (List.toArray [v, w']) 44 (0, 0))) 0 _ := ⟨z0.ext Ext0.out⟩
  have y1' : HgAt (h.upd q3 (.cells (List.toArray [v, w']) 44 (0, 0))) 1 _ := ⟨z1.ext Ext0.out⟩
  refine W.call hS (c81 (h := h.upd q3 (.cells (List.toArray [v, w']) 44 (0, 0))) (v := v) (w' := w') (l := l) (ts := ts) (w := w) (r := r) (by omega) (by omega) (fun x hx => NoW.of (by have := Int.mul_nonneg hw0 (gh.weight x hx).1; omega) (by have := hbw x hx; omega)) (fun x hx => NoW.of (by have := Int.mul_nonneg hr0 (gh.bears x hx).1; omega) (by have := hbb x hx; omega)) (fun t ht => NoW.of (by have := Int.mul_nonneg hr0 (g.most t ht).1; omega) (by have := hbt t ht; omega))) (fun r1 h1 hr1 => ?_)
  obtain ⟨x1, p, sl, rh, rm, rfl, fl⟩ := hr1
  have x1c : ExtC _ h1 := ⟨x1⟩
  have ps_le := laidT_len w r l
  have psl : ((laidL w r l ts).map Prod.fst).length ≤ 1000 := by simp [laidL]; omega
  repeat (first | refine hS.seq ?_ | refine hS.regionW ?_ | refine W.pop ?_ | refine W.yes ?_ | refine W.no ?_ | refine W.box (fun _ _ => ?_) | refine W.alloc (fun _ _ => ?_) | refine W.store ?_ | refine W.bs (fun _ _ => ?_) | refine W.fn hS (fun _ _ => ?_) | refine WL.nil ?_ | refine R.condT hS ?_ | refine R.condF hS ?_ | refine hS.skip ?_ | refine hS.block ?_ | refine hS.inBlock ?_ | refine R.ret hS ?_ | refine R.fin hS ?_ | refine R.begin hS ?_ | refine R.endRound hS ?_ | refine R.retRound hS ?_ | refine R.retC hS ?_ | refine R.endRangeDone hS ?_ | refine R.endRangeRet hS ?_)
  rename_i q9 f9
  refine at_heapW (fun h2 => h2.gh = [] ∧ FlowAt (h.upd q3 (.cells (List.toArray [v, w']) 44 (0, 0))) h2 p sl rh rm ((laidL w r l ts).map Prod.fst) (fun _ => none) (mostOf (laidL w r l ts)) ∧ Ext (h.upd q3 (.cells (List.toArray [v, w']) 44 (0, 0))) h2 ∧ Ext h h2 ∧ HG h2 q3 (.cells (List.toArray [v, w']) 44 (0, 0)) ∧ HG h2 q9 (.cells (List.toArray [.pointer (some ⟨p, 0, none⟩)]) 198 (0, 0)) ∧ Own h2 q9) ⟨gh_upd.trans (gh_upd.trans (x1.gh.trans (gh_upd.trans hgh))), fl.ext Ext0.out, Ext0.out, Ext0.out, HGC.out, HGC.out, OwnC.out⟩ (fun h2 hk => ?_)
  obtain ⟨gh2, fl2, x02, xh2, g3, g9, o9⟩ := hk
  have i9 : HGC h2 q9 _ := ⟨g9⟩
  have xhc : ExtC h h2 := ⟨xh2⟩
  repeat (first | refine hS.seq ?_ | refine hS.regionW ?_ | refine W.pop ?_ | refine W.yes ?_ | refine W.no ?_ | refine W.box (fun _ _ => ?_) | refine W.alloc (fun _ _ => ?_) | refine W.store ?_ | refine W.bs (fun _ _ => ?_) | refine W.fn hS (fun _ _ => ?_) | refine WL.nil ?_ | refine R.condT hS ?_ | refine R.condF hS ?_ | refine hS.skip ?_ | refine hS.block ?_ | refine hS.inBlock ?_ | refine R.ret hS ?_ | refine R.fin hS ?_ | refine R.begin hS ?_ | refine R.endRound hS ?_ | refine R.retRound hS ?_ | refine R.retC hS ?_ | refine R.endRangeDone hS ?_ | refine R.endRangeRet hS ?_)
  refine W.callM hM (c82 gh2 fl2 x02 (flow_init gh g hw0 hr0) (fun q hq => ?_) psl (z0.ext xh2) (z1.ext xh2)) (fun r2 h3 hr2 => ?_)
  · obtain ⟨⟨q', vv⟩, hm, rfl⟩ := List.mem_map.1 hq
    rw [laid_most hm]
    rcases laid_mem.1 hm with ⟨i, x, hx, ⟨_, rfl⟩ | ⟨_, rfl⟩ | ⟨_, rfl, _⟩⟩ | ⟨k, t, ht, _, rfl⟩
    · exact hbw x (List.mem_of_getElem? hx)
    · exact hbb x (List.mem_of_getElem? hx)
    · exact hbb x (List.mem_of_getElem? hx)
    · exact hbt t (List.mem_of_getElem? ht)
  obtain ⟨x03, fr3, ow3, has, rb, es, cl, rfl, fl3, fo, gb, ob, frb, mb, hend⟩ := hr2
  have nrh : ∀ b o, HG h b o → b ≠ rh := fun b o hb e => by
    have := fl2.new.2.2.1
    subst e
    exact some_of (Ext0.out : Ext h (h.upd q3 (.cells (List.toArray [v, w']) 44 (0, 0)))) hb this
  have nrc : ∀ b c e f, HG h2 b (.cells c e f) → b ≠ rh := fun b c e ff hb q => by
    obtain ⟨eh, ch, k1, _⟩ := fl2.hh
    subst q; exact absurd (hg_inj hb k1) (by simp)
  have xh3 : Ext h h3 := ext_fr fr3 ow3 xh2 nrh (by rw [x03.gh, gh_upd]) 
  have xh3c : ExtC h h3 := ⟨xh3⟩
  have j3 : HGC h3 q3 _ := ⟨fr3 _ _ g3 (nrc _ _ _ _ g3)⟩
  have j9 : HGC h3 q9 _ := ⟨fr3 _ _ g9 (nrc _ _ _ _ g9)⟩
  have jb : HGC h3 rb (.map es cl) := ⟨gb⟩
  have jm : MiC spotK stepV es cl _ := ⟨mb⟩
  clear g3 g9 i9 o9 xhc
  have jp : HGC h3 p _ := ⟨fl3.hp⟩
  obtain ⟨eh, ch, gh3, mh3⟩ := fl3.hh
  obtain ⟨em, cm, gm3, mm3⟩ := fl3.hm
  have jh : HGC h3 rh (.map eh ch) := ⟨gh3⟩
  have jmh : MiC pipeK intK eh ch has := ⟨mh3⟩
  have jmm : HGC h3 rm (.map em cm) := ⟨gm3⟩
  have jmmm : MiC pipeK intK em cm (mostOf (laidL w r l ts)) := ⟨mm3⟩
  have jsl : SlwC h3 7 sl _ := ⟨fl3.w⟩
  have ssl := slw_single fl3.w
  repeat (first | refine hS.seq ?_ | refine hS.regionW ?_ | refine W.pop ?_ | refine W.yes ?_ | refine W.no ?_ | refine W.box (fun _ _ => ?_) | refine W.alloc (fun _ _ => ?_) | refine W.store ?_ | refine W.bs (fun _ _ => ?_) | refine W.fn hS (fun _ _ => ?_) | refine WL.nil ?_ | refine R.condT hS ?_ | refine R.condF hS ?_ | refine hS.skip ?_ | refine hS.block ?_ | refine hS.inBlock ?_ | refine R.ret hS ?_ | refine R.fin hS ?_ | refine R.begin hS ?_ | refine R.endRound hS ?_ | refine R.retRound hS ?_ | refine R.retC hS ?_ | refine R.endRangeDone hS ?_ | refine R.endRangeRet hS ?_)
  refine W.fn hS (hc := c83 (l := (laidL w r l ts).map Prod.fst) (toC := Pipe.c) (p := fun q => decide (q.frm = srcS) && decide (amt has q < amt (mostOf (laidL w r l ts)) q)) (by omega) (fun q _ h4 hx4 => by
      have k1 : HgAt h4 q9 _ := ⟨HG.ext HGC.out hx4.out⟩
      have k2 : HgAt h4 p _ := ⟨HG.ext HGC.out hx4.out⟩
      have k3 : HgAt h4 rh _ := ⟨HG.ext HGC.out hx4.out⟩
      have k4 : HgAt h4 rm _ := ⟨HG.ext HGC.out hx4.out⟩
      have k5 : HgAt h4 0 (.cells (List.toArray [.int .i64 (-1), .bool false, .bool false]) 206 (0, 0)) := ⟨(z0.ext xh3).ext hx4.out⟩
      exact c84 (q := q) (bp := q9) (p := p) (rh := rh) (rm := rm) (sl := sl) (eh := eh) (em := em) (ch := ch) (cm := cm) (has := has) (most := mostOf (laidL w r l ts)))) (fun h4 x4 => ?_)
  change WL _ _ _ _ _ _ _ (putE _ _ (.bool (lack ((laidL w r l ts).map Prod.fst) has (mostOf (laidL w r l ts))))) _ _
  generalize hps : (laidL w r l ts).map Prod.fst = ps at *
  generalize hmo : mostOf (laidL w r l ts) = most at *
  cases hlk : lack ps has most with
  | false =>
    have hcut : ∀ c, CutOk l c → w * cutW l c ≤ r * cutO l ts c := fun c hcc => by
      subst hps hmo
      exact full_cut gh g hw0 hr0 fo (lack_f hlk) hcc
    have tf : IsC (!false) true := ⟨rfl⟩
    have gts : SlAt h3 3 w' (ts.map Tie.c) := ⟨hw.out.ext xh3⟩
    repeat (first | refine hS.seq ?_ | refine hS.regionW ?_ | refine W.pop ?_ | refine W.yes ?_ | refine W.no ?_ | refine W.box (fun _ _ => ?_) | refine W.alloc (fun _ _ => ?_) | refine W.store ?_ | refine W.bs (fun _ _ => ?_) | refine W.fn hS (fun _ _ => ?_) | refine WL.nil ?_ | refine R.condT hS ?_ | refine R.condF hS ?_ | refine hS.skip ?_ | refine hS.block ?_ | refine hS.inBlock ?_ | refine R.ret hS ?_ | refine R.fin hS ?_ | refine R.begin hS ?_ | refine R.endRound hS ?_ | refine R.retRound hS ?_ | refine R.retC hS ?_ | refine R.endRangeDone hS ?_ | refine R.endRangeRet hS ?_)
    refine W.makeSlice (m := ts.length) (by_ := 8) (sz := 1) (z := [.int .i64 0]) rfl (by kernel_rfl) (by omega) (by omega) (fun bs fbs wbs => ?_)
    have wbc : SlwC _ 1 _ _ := ⟨wbs⟩
    have nbs : Fresh0 h bs := inferInstance
    have hties : ∀ q ∈ ps, q.tie = -1 ∨ ∃ j : Nat, j < ts.length ∧ q.tie = j := fun q hq => by
      rw [← hps] at hq
      obtain ⟨⟨q', vv⟩, hm, rfl⟩ := List.mem_map.1 hq
      rcases laid_mem.1 hm with ⟨i, x, hx, ⟨e, _⟩ | ⟨e, _⟩ | ⟨e, _⟩⟩ | ⟨k, t, ht, e, _⟩
      · exact .inl (by rw [e])
      · exact .inl (by rw [e])
      · exact .inl (by rw [e])
      · exact .inr ⟨k, (List.getElem?_eq_some_iff.1 ht).1, by rw [e]⟩
    have nbn : NewB h4 (.slice (some ⟨bs, 0, none⟩) ts.length ts.length) := fun b hb => by
      simp only [blkOf, Option.some.injEq] at hb
      subst hb; exact fbs.out
    repeat (first | refine hS.seq ?_ | refine hS.regionW ?_ | refine W.pop ?_ | refine W.yes ?_ | refine W.no ?_ | refine W.box (fun _ _ => ?_) | refine W.alloc (fun _ _ => ?_) | refine W.store ?_ | refine W.bs (fun _ _ => ?_) | refine W.fn hS (fun _ _ => ?_) | refine WL.nil ?_ | refine R.condT hS ?_ | refine R.condF hS ?_ | refine hS.skip ?_ | refine hS.block ?_ | refine hS.inBlock ?_ | refine R.ret hS ?_ | refine R.fin hS ?_ | refine R.begin hS ?_ | refine R.endRound hS ?_ | refine R.retRound hS ?_ | refine R.retC hS ?_ | refine R.endRangeDone hS ?_ | refine R.endRangeRet hS ?_)
    refine hS.loop ?_
    refine loop_ind (fun (k : Nat) => ps.length - k) (fun k E h' => k ≤ ps.length ∧ LookC E 6 (.slice (some ⟨bs, 0, none⟩) ts.length ts.length) ∧ LookC E 9 (.pointer (some ⟨q9, 0, none⟩)) ∧ LookC E 40 sl ∧ LookC E 41 (.int .i64 ps.length) ∧ LookC E 42 (.int .i64 (k : Nat)) ∧ Ext h4 h' ∧ ∃ xs, xs.length = ts.length ∧ SlW h' 1 (.slice (some ⟨bs, 0, none⟩) ts.length ts.length) xs) ?_ 0 _ _ ⟨Nat.zero_le _, inferInstance, inferInstance, inferInstance, inferInstance, inferInstance, Ext0.out, _, by simp, wbs⟩
    rintro k E h' ⟨hk, l6, l9, l40, l41, l42, xk, xs, hxl, wk⟩ ih
    have xkc : ExtC h4 h' := ⟨xk⟩
    by_cases hlt : k < ps.length
    · have t1 : IsC (decide ((k : Int) < (ps.length : Int))) true := ⟨by simp [hlt]⟩
      have nw : NoW ((k : Int) + 1) := NoW.of (by omega) (by omega)
      have hq : ps[k]? = some ps[k] := by simp [hlt]
      have hqm : ps[k] ∈ ps := List.getElem_mem hlt
      generalize ps[k] = q at hq hqm
      have ix : IxC ps k q := ⟨hq⟩
      have wkc : SlwC h' 1 _ _ := ⟨wk⟩
      rcases hties q hqm with ht | ⟨j, hj, ht⟩
      · have t2 : IsC (decide (q.tie ≥ 0)) false := ⟨by simp; omega⟩
        repeat (first | refine hS.seq ?_ | refine hS.regionW ?_ | refine W.pop ?_ | refine W.yes ?_ | refine W.no ?_ | refine W.box (fun _ _ => ?_) | refine W.alloc (fun _ _ => ?_) | refine W.store ?_ | refine W.bs (fun _ _ => ?_) | refine W.fn hS (fun _ _ => ?_) | refine WL.nil ?_ | refine R.condT hS ?_ | refine R.condF hS ?_ | refine hS.skip ?_ | refine hS.block ?_ | refine hS.inBlock ?_ | refine R.ret hS ?_ | refine R.fin hS ?_ | refine R.begin hS ?_ | refine R.endRound hS ?_ | refine R.retRound hS ?_ | refine R.retC hS ?_ | refine R.endRangeDone hS ?_ | refine R.endRangeRet hS ?_)
        refine hS.inLoop ?_
        exact ih (k + 1) _ _ (by omega) ⟨hlt, inferInstance, inferInstance, inferInstance, inferInstance, by have e : ((k + 1 : Nat) : Int) = (k : Int) + 1 := (by omega); rw [e]; infer_instance, Ext0.out, xs, hxl, SlwC.out⟩
      · have el : ElC (ps.map Pipe.c) k [.int .i64 q.frm.t, .bool q.frm.a, .bool q.frm.b, .int .i64 q.to.t, .bool q.to.a, .bool q.to.b, .int .i64 (j : Nat)] := by rw [← ht]; exact elPi
        have t2 : IsC (decide (((j : Nat) : Int) ≥ 0)) true := ⟨by simp⟩
        clear ix
        obtain ⟨yv, hy⟩ := slw_one wk (i := j) (by omega)
        have ely : ElC xs j [yv] := ⟨hy⟩
        repeat (first | refine hS.seq ?_ | refine hS.regionW ?_ | refine W.pop ?_ | refine W.yes ?_ | refine W.no ?_ | refine W.box (fun _ _ => ?_) | refine W.alloc (fun _ _ => ?_) | refine W.store ?_ | refine W.bs (fun _ _ => ?_) | refine W.fn hS (fun _ _ => ?_) | refine WL.nil ?_ | refine R.condT hS ?_ | refine R.condF hS ?_ | refine hS.skip ?_ | refine hS.block ?_ | refine hS.inBlock ?_ | refine R.ret hS ?_ | refine R.fin hS ?_ | refine R.begin hS ?_ | refine R.endRound hS ?_ | refine R.retRound hS ?_ | refine R.retC hS ?_ | refine R.endRangeDone hS ?_ | refine R.endRangeRet hS ?_)
        refine hS.regionA mixed [10] ?_
        first | (refine A.takeM 0 rfl (by kernel_rfl) (by intro _ _ e; cases e) ?_) | (refine A.take 0 rfl (by kernel_rfl) (by intro _ _ e; cases e) ?_)
        refine A.take 1 rfl (by kernel_rfl) (by intro _ _ e; cases e) ?_
        refine A.take 2 rfl (by kernel_rfl) (by intro _ _ e; cases e) ?_
        refine A.take 3 rfl (by kernel_rfl) (by intro _ _ e; cases e) ?_
        refine A.take 4 rfl (by kernel_rfl) (by intro _ _ e; cases e) ?_
        refine A.take 5 rfl (by kernel_rfl) (by intro _ _ e; cases e) ?_
        refine A.take 6 rfl (by kernel_rfl) (by intro _ _ e; cases e) ?_
        refine A.take 7 rfl (by kernel_rfl) (by intro _ _ e; cases e) ?_
        refine A.take 8 rfl (by kernel_rfl) (by intro _ _ e; cases e) ?_
        refine A.take 9 rfl (by kernel_rfl) (by intro _ _ e; cases e) ?_
        refine A.one 10 rfl (by kernel_rfl) ?_
        refine W.storeEl (SlwC.out (v := .slice (some ⟨bs, 0, none⟩) ts.length ts.length) (xs := xs)) hy (fun h5 w5 fr5 => ?_)
        refine A.hard (by rfl) ?_
        refine Any.done (by kernel_rfl) ?_
        have x5 : Ext h4 h5 := fr5.ext nbn Ext0.out
        repeat (first | refine hS.seq ?_ | refine hS.regionW ?_ | refine W.pop ?_ | refine W.yes ?_ | refine W.no ?_ | refine W.box (fun _ _ => ?_) | refine W.alloc (fun _ _ => ?_) | refine W.store ?_ | refine W.bs (fun _ _ => ?_) | refine W.fn hS (fun _ _ => ?_) | refine WL.nil ?_ | refine R.condT hS ?_ | refine R.condF hS ?_ | refine hS.skip ?_ | refine hS.block ?_ | refine hS.inBlock ?_ | refine R.ret hS ?_ | refine R.fin hS ?_ | refine R.begin hS ?_ | refine R.endRound hS ?_ | refine R.retRound hS ?_ | refine R.retC hS ?_ | refine R.endRangeDone hS ?_ | refine R.endRangeRet hS ?_)
        refine hS.inLoop ?_
        exact ih (k + 1) _ _ (by omega) ⟨hlt, inferInstance, inferInstance, inferInstance, inferInstance, by have e : ((k + 1 : Nat) : Int) = (k : Int) + 1 := (by omega); rw [e]; infer_instance, x5, _, by rw [List.length_set]; exact hxl, w5⟩
    · have t1 : IsC (decide ((k : Int) < (ps.length : Int))) false := ⟨by simp; omega⟩
      repeat (first | refine hS.seq ?_ | refine hS.regionW ?_ | refine W.pop ?_ | refine W.yes ?_ | refine W.no ?_ | refine W.box (fun _ _ => ?_) | refine W.alloc (fun _ _ => ?_) | refine W.store ?_ | refine W.bs (fun _ _ => ?_) | refine W.fn hS (fun _ _ => ?_) | refine WL.nil ?_ | refine R.condT hS ?_ | refine R.condF hS ?_ | refine hS.skip ?_ | refine hS.block ?_ | refine hS.inBlock ?_ | refine R.ret hS ?_ | refine R.fin hS ?_ | refine R.begin hS ?_ | refine R.endRound hS ?_ | refine R.retRound hS ?_ | refine R.retC hS ?_ | refine R.endRangeDone hS ?_ | refine R.endRangeRet hS ?_)
      refine hS.exit rfl ?_
      repeat (first | refine hS.seq ?_ | refine hS.regionW ?_ | refine W.pop ?_ | refine W.yes ?_ | refine W.no ?_ | refine W.box (fun _ _ => ?_) | refine W.alloc (fun _ _ => ?_) | refine W.store ?_ | refine W.bs (fun _ _ => ?_) | refine W.fn hS (fun _ _ => ?_) | refine WL.nil ?_ | refine R.condT hS ?_ | refine R.condF hS ?_ | refine hS.skip ?_ | refine hS.block ?_ | refine hS.inBlock ?_ | refine R.ret hS ?_ | refine R.fin hS ?_ | refine R.begin hS ?_ | refine R.endRound hS ?_ | refine R.retRound hS ?_ | refine R.retC hS ?_ | refine R.endRangeDone hS ?_ | refine R.endRangeRet hS ?_)
      exact hc _ _ ⟨Ext0.out, _, _, true, rfl, fun _ => hcut, fun e => by cases e⟩
  | true =>
    have tf : IsC (!true) false := ⟨rfl⟩
    have hbr : CutOk l (cutOf l.length (rB ps has most)) ∧ r * cutO l ts (cutOf l.length (rB ps has most)) < w * cutW l (cutOf l.length (rB ps has most)) := by
      subst hps hmo
      exact break_cut gh g hw0 hr0 fo hend (lack_t hlk)
    have gth : SlAt h3 4 v (l.map Thing.c) := ⟨hs.out.ext xh3⟩
    repeat (first | refine hS.seq ?_ | refine hS.regionW ?_ | refine W.pop ?_ | refine W.yes ?_ | refine W.no ?_ | refine W.box (fun _ _ => ?_) | refine W.alloc (fun _ _ => ?_) | refine W.store ?_ | refine W.bs (fun _ _ => ?_) | refine W.fn hS (fun _ _ => ?_) | refine WL.nil ?_ | refine R.condT hS ?_ | refine R.condF hS ?_ | refine hS.skip ?_ | refine hS.block ?_ | refine hS.inBlock ?_ | refine R.ret hS ?_ | refine R.fin hS ?_ | refine R.begin hS ?_ | refine R.endRound hS ?_ | refine R.retRound hS ?_ | refine R.retC hS ?_ | refine R.endRangeDone hS ?_ | refine R.endRangeRet hS ?_)
    refine hS.loop ?_
    refine loop_ind (fun (i : Nat) => l.length - i) (fun i E h' => i ≤ l.length ∧ LookC E 10 (.map (some rb)) ∧ LookC E 63 (.int .i64 l.length) ∧ LookC E 64 (.int .i64 (i : Nat)) ∧ Ext h4 h' ∧ ∃ cu, LookC E 7 cu ∧ SlW h' 1 cu (cutC (cutOf i (rB ps has most))) ∧ NewB h4 cu) ?_ 0 _ _ ⟨Nat.zero_le _, inferInstance, inferInstance, inferInstance, Ext0.out, .slice none 0 0, inferInstance, ⟨by simp [cutC, cutOf], .inl ⟨rfl, by simp [cutC, cutOf]⟩⟩, fun b hb => by simp [blkOf] at hb⟩
    rintro i E h' ⟨hi, l10, l63, l64, xk, cu, l7, wk, nk⟩ ih
    have xkc : ExtC h4 h' := ⟨xk⟩
    have wkc : SlwC h' 1 cu _ := ⟨wk⟩
    have ssc := slw_single wk
    by_cases hlt : i < l.length
    · have t1 : IsC (decide ((i : Int) < (l.length : Int))) true := ⟨by simp [hlt]⟩
      have nw : NoW ((i : Int) + 1) := NoW.of (by omega) (by omega)
      have step : ∀ (z : Int), z = (if rB ps has most (comeS i) && rB ps has most (goS i) then 2 else if rB ps has most (comeS i) then 1 else 0) → cutC (cutOf i (rB ps has most)) ++ [[.int .i64 z]] = cutC (cutOf (i + 1) (rB ps has most)) := fun z hz => by
        rw [cutOf_snoc, ← hz]; simp [cutC]
      cases hA : rB ps has most (comeS i) with
      | true =>
        have ta : IsC (byOf (found ps has most) ⟨(i : Int), true, false⟩).isSome true := ⟨hA⟩
        cases hB : rB ps has most (goS i) with
        | true =>
          have tb : IsC (byOf (found ps has most) ⟨(i : Int), false, true⟩).isSome true := ⟨hB⟩
          repeat (first | refine hS.seq ?_ | refine hS.regionW ?_ | refine W.pop ?_ | refine W.yes ?_ | refine W.no ?_ | refine W.box (fun _ _ => ?_) | refine W.alloc (fun _ _ => ?_) | refine W.store ?_ | refine W.bs (fun _ _ => ?_) | refine W.fn hS (fun _ _ => ?_) | refine WL.nil ?_ | refine R.condT hS ?_ | refine R.condF hS ?_ | refine hS.skip ?_ | refine hS.block ?_ | refine hS.inBlock ?_ | refine R.ret hS ?_ | refine R.fin hS ?_ | refine R.begin hS ?_ | refine R.endRound hS ?_ | refine R.retRound hS ?_ | refine R.retC hS ?_ | refine R.endRangeDone hS ?_ | refine R.endRangeRet hS ?_)
          refine W.append (xs := cutC (cutOf i (rB ps has most))) (ys := [[.int .i64 2]]) (by_ := 8) (by kernel_rfl) SlwC.out (slOne (n := 1) HGC.out rfl) sgl1 (by simp [cutC, cutOf]; omega) (by simp [cutC, cutOf]; omega) (fun s' h7 hw7 fr7 hb7 => ?_); have x7 : Ext h4 h7 := fr7.ext nk Ext0.out; have n7 : NewB h4 s' := new_of hb7 nk Ext0.out; have x7c : ExtC h4 h7 := ⟨x7⟩; have y7 : SlwC h7 1 s' _ := ⟨hw7⟩; have y8 := slw_single hw7; (repeat (first | refine hS.seq ?_ | refine hS.regionW ?_ | refine W.pop ?_ | refine W.yes ?_ | refine W.no ?_ | refine W.box (fun _ _ => ?_) | refine W.alloc (fun _ _ => ?_) | refine W.store ?_ | refine W.bs (fun _ _ => ?_) | refine W.fn hS (fun _ _ => ?_) | refine WL.nil ?_ | refine R.condT hS ?_ | refine R.condF hS ?_ | refine hS.skip ?_ | refine hS.block ?_ | refine hS.inBlock ?_ | refine R.ret hS ?_ | refine R.fin hS ?_ | refine R.begin hS ?_ | refine R.endRound hS ?_ | refine R.retRound hS ?_ | refine R.retC hS ?_ | refine R.endRangeDone hS ?_ | refine R.endRangeRet hS ?_)); refine hS.inLoop ?_; exact ih (i + 1) _ _ (by omega) ⟨hlt, inferInstance, inferInstance, by have e : ((i + 1 : Nat) : Int) = (i : Int) + 1 := (by omega); rw [e]; infer_instance, x7, s', inferInstance, by rw [← step 2 (by simp [hA, *])]; exact hw7, n7⟩
        | false =>
          have tb : IsC (byOf (found ps has most) ⟨(i : Int), false, true⟩).isSome false := ⟨hB⟩
          repeat (first | refine hS.seq ?_ | refine hS.regionW ?_ | refine W.pop ?_ | refine W.yes ?_ | refine W.no ?_ | refine W.box (fun _ _ => ?_) | refine W.alloc (fun _ _ => ?_) | refine W.store ?_ | refine W.bs (fun _ _ => ?_) | refine W.fn hS (fun _ _ => ?_) | refine WL.nil ?_ | refine R.condT hS ?_ | refine R.condF hS ?_ | refine hS.skip ?_ | refine hS.block ?_ | refine hS.inBlock ?_ | refine R.ret hS ?_ | refine R.fin hS ?_ | refine R.begin hS ?_ | refine R.endRound hS ?_ | refine R.retRound hS ?_ | refine R.retC hS ?_ | refine R.endRangeDone hS ?_ | refine R.endRangeRet hS ?_)
          refine W.append (xs := cutC (cutOf i (rB ps has most))) (ys := [[.int .i64 1]]) (by_ := 8) (by kernel_rfl) SlwC.out (slOne (n := 1) HGC.out rfl) sgl1 (by simp [cutC, cutOf]; omega) (by simp [cutC, cutOf]; omega) (fun s' h7 hw7 fr7 hb7 => ?_); have x7 : Ext h4 h7 := fr7.ext nk Ext0.out; have n7 : NewB h4 s' := new_of hb7 nk Ext0.out; have x7c : ExtC h4 h7 := ⟨x7⟩; have y7 : SlwC h7 1 s' _ := ⟨hw7⟩; have y8 := slw_single hw7; (repeat (first | refine hS.seq ?_ | refine hS.regionW ?_ | refine W.pop ?_ | refine W.yes ?_ | refine W.no ?_ | refine W.box (fun _ _ => ?_) | refine W.alloc (fun _ _ => ?_) | refine W.store ?_ | refine W.bs (fun _ _ => ?_) | refine W.fn hS (fun _ _ => ?_) | refine WL.nil ?_ | refine R.condT hS ?_ | refine R.condF hS ?_ | refine hS.skip ?_ | refine hS.block ?_ | refine hS.inBlock ?_ | refine R.ret hS ?_ | refine R.fin hS ?_ | refine R.begin hS ?_ | refine R.endRound hS ?_ | refine R.retRound hS ?_ | refine R.retC hS ?_ | refine R.endRangeDone hS ?_ | refine R.endRangeRet hS ?_)); refine hS.inLoop ?_; exact ih (i + 1) _ _ (by omega) ⟨hlt, inferInstance, inferInstance, by have e : ((i + 1 : Nat) : Int) = (i : Int) + 1 := (by omega); rw [e]; infer_instance, x7, s', inferInstance, by rw [← step 1 (by simp [hA, *])]; exact hw7, n7⟩
      | false =>
        have ta : IsC (byOf (found ps has most) ⟨(i : Int), true, false⟩).isSome false := ⟨hA⟩
        repeat (first | refine hS.seq ?_ | refine hS.regionW ?_ | refine W.pop ?_ | refine W.yes ?_ | refine W.no ?_ | refine W.box (fun _ _ => ?_) | refine W.alloc (fun _ _ => ?_) | refine W.store ?_ | refine W.bs (fun _ _ => ?_) | refine W.fn hS (fun _ _ => ?_) | refine WL.nil ?_ | refine R.condT hS ?_ | refine R.condF hS ?_ | refine hS.skip ?_ | refine hS.block ?_ | refine hS.inBlock ?_ | refine R.ret hS ?_ | refine R.fin hS ?_ | refine R.begin hS ?_ | refine R.endRound hS ?_ | refine R.retRound hS ?_ | refine R.retC hS ?_ | refine R.endRangeDone hS ?_ | refine R.endRangeRet hS ?_)
        refine W.append (xs := cutC (cutOf i (rB ps has most))) (ys := [[.int .i64 0]]) (by_ := 8) (by kernel_rfl) SlwC.out (slOne (n := 1) HGC.out rfl) sgl1 (by simp [cutC, cutOf]; omega) (by simp [cutC, cutOf]; omega) (fun s' h7 hw7 fr7 hb7 => ?_); have x7 : Ext h4 h7 := fr7.ext nk Ext0.out; have n7 : NewB h4 s' := new_of hb7 nk Ext0.out; have x7c : ExtC h4 h7 := ⟨x7⟩; have y7 : SlwC h7 1 s' _ := ⟨hw7⟩; have y8 := slw_single hw7; (repeat (first | refine hS.seq ?_ | refine hS.regionW ?_ | refine W.pop ?_ | refine W.yes ?_ | refine W.no ?_ | refine W.box (fun _ _ => ?_) | refine W.alloc (fun _ _ => ?_) | refine W.store ?_ | refine W.bs (fun _ _ => ?_) | refine W.fn hS (fun _ _ => ?_) | refine WL.nil ?_ | refine R.condT hS ?_ | refine R.condF hS ?_ | refine hS.skip ?_ | refine hS.block ?_ | refine hS.inBlock ?_ | refine R.ret hS ?_ | refine R.fin hS ?_ | refine R.begin hS ?_ | refine R.endRound hS ?_ | refine R.retRound hS ?_ | refine R.retC hS ?_ | refine R.endRangeDone hS ?_ | refine R.endRangeRet hS ?_)); refine hS.inLoop ?_; exact ih (i + 1) _ _ (by omega) ⟨hlt, inferInstance, inferInstance, by have e : ((i + 1 : Nat) : Int) = (i : Int) + 1 := (by omega); rw [e]; infer_instance, x7, s', inferInstance, by rw [← step 0 (by simp [hA, *])]; exact hw7, n7⟩
    · have t1 : IsC (decide ((i : Int) < (l.length : Int))) false := ⟨by simp; omega⟩
      have ei : i = l.length := by omega
      subst ei
      repeat (first | refine hS.seq ?_ | refine hS.regionW ?_ | refine W.pop ?_ | refine W.yes ?_ | refine W.no ?_ | refine W.box (fun _ _ => ?_) | refine W.alloc (fun _ _ => ?_) | refine W.store ?_ | refine W.bs (fun _ _ => ?_) | refine W.fn hS (fun _ _ => ?_) | refine WL.nil ?_ | refine R.condT hS ?_ | refine R.condF hS ?_ | refine hS.skip ?_ | refine hS.block ?_ | refine hS.inBlock ?_ | refine R.ret hS ?_ | refine R.fin hS ?_ | refine R.begin hS ?_ | refine R.endRound hS ?_ | refine R.retRound hS ?_ | refine R.retC hS ?_ | refine R.endRangeDone hS ?_ | refine R.endRangeRet hS ?_)
      refine hS.exit rfl ?_
      repeat (first | refine hS.seq ?_ | refine hS.regionW ?_ | refine W.pop ?_ | refine W.yes ?_ | refine W.no ?_ | refine W.box (fun _ _ => ?_) | refine W.alloc (fun _ _ => ?_) | refine W.store ?_ | refine W.bs (fun _ _ => ?_) | refine W.fn hS (fun _ _ => ?_) | refine WL.nil ?_ | refine R.condT hS ?_ | refine R.condF hS ?_ | refine hS.skip ?_ | refine hS.block ?_ | refine hS.inBlock ?_ | refine R.ret hS ?_ | refine R.fin hS ?_ | refine R.begin hS ?_ | refine R.endRound hS ?_ | refine R.retRound hS ?_ | refine R.retC hS ?_ | refine R.endRangeDone hS ?_ | refine R.endRangeRet hS ?_)
      exact hc _ _ ⟨Ext0.out, _, _, false, rfl, (fun e => by cases e), fun _ => ⟨_, hbr.1, hbr.2, (SlwC.out (v := cu)).sle⟩⟩
end Go.Proofs.YtankmjkogcbnfaaDoor
namespace Go.Proofs.YtankmjkogcbnfaaDoor
open Go Go.SL Go.Conc
attribute [local irreducible] putE ofL Look Nth Ev HG Own SubL Wr Sgl EvL LH.upd WL OpS Any Con PopW Pop
theorem c11 {l : List Thing} {ts : List Tie} {v w' : Value} {h : LH} (hgh : h.gh = []) [sv : SingleC v] [sw : SingleC w'] [hs : SlC h 4 v (l.map Thing.c)] [hw : SlC h 3 w' (ts.map Tie.c)]
    (z0 : HG h 0 (.cells (List.toArray [.int .i64 (-1), .bool false, .bool false]) 206 (0, 0))) (z1 : HG h 1 (.cells (List.toArray [.int .i64 (-2), .bool false, .bool false]) 206 (0, 0)))
    (gh : GoodTh l) (g : GoodTi l ts) :
    ConM Tryd.prog 11 [.agg (List.toArray [v, w'])] h (fun rr h' => Ext h h' ∧ ∃ sh cu ok, rr = .tuple (List.toArray [sh, cu, .bool ok, .int .i64 0]) ∧ (ok = true ↔ ∀ c, CutOk l c → cutW l c ≤ cutO l ts c)) := by
  have hs' : SlAt h 4 v (l.map Thing.c) := ⟨hs.out⟩
  have hw' : SlAt h 3 w' (ts.map Tie.c) := ⟨hw.out⟩
  refine ConM.intro (m := 1) Tryd.func11 rfl Tryd.ntmps11 rfl (by decide) ?_
  intro S hM cc cs hc
  have hS := hM.reg
  repeat (first | refine hS.seq ?_ | refine hS.regionW ?_ | refine W.pop ?_ | refine W.yes ?_ | refine W.no ?_ | refine W.box (fun _ _ => ?_) | refine W.alloc (fun _ _ => ?_) | refine W.store ?_ | refine W.bs (fun _ _ => ?_) | refine W.fn hS (fun _ _ => ?_) | refine WL.nil ?_ | refine R.condT hS ?_ | refine R.condF hS ?_ | refine hS.skip ?_ | refine hS.block ?_ | refine hS.inBlock ?_ | refine R.ret hS ?_ | refine R.fin hS ?_ | refine R.begin hS ?_ | refine R.endRound hS ?_ | refine R.retRound hS ?_ | refine R.retC hS ?_ | refine R.endRangeDone hS ?_ | refine R.endRangeRet hS ?_)
  rename_i q1 f1
  refine W.fn hS (hc := c38 (h := h.upd q1 (.cells (List.toArray [v, w']) 44 (0, 0))) (v := v) (w := w') gh g) (fun h1 x1 => ?_)
  have t0 : IsC ((0 : Int) != 0) false := ⟨rfl⟩
  have x1c : Ext h h1 := (Ext0.out : Ext h (h.upd q1 (.cells (List.toArray [v, w']) 44 (0, 0)))).trans x1.out
  have x1d : ExtC h h1 := ⟨x1c⟩
  have k1 : HGC h1 q1 (.cells (List.toArray [v, w']) 44 (0, 0)) := ⟨HG.ext (h := h.upd q1 (.cells (List.toArray [v, w']) 44 (0, 0))) HGC.out x1.out⟩
  repeat (first | refine hS.seq ?_ | refine hS.regionW ?_ | refine W.pop ?_ | refine W.yes ?_ | refine W.no ?_ | refine W.box (fun _ _ => ?_) | refine W.alloc (fun _ _ => ?_) | refine W.store ?_ | refine W.bs (fun _ _ => ?_) | refine W.fn hS (fun _ _ => ?_) | refine WL.nil ?_ | refine R.condT hS ?_ | refine R.condF hS ?_ | refine hS.skip ?_ | refine hS.block ?_ | refine hS.inBlock ?_ | refine R.ret hS ?_ | refine R.fin hS ?_ | refine R.begin hS ?_ | refine R.endRound hS ?_ | refine R.retRound hS ?_ | refine R.retC hS ?_ | refine R.endRangeDone hS ?_ | refine R.endRangeRet hS ?_)
  refine W.callM hM (c39 (h := h1) (v := v) (w' := w') (l := l) (ts := ts) (w := 1) (r := 1) (x1c.gh.trans hgh) (z0.ext x1c) (z1.ext x1c) gh g (by decide) (by decide) (fun x hx => by have := gh.weight x hx; omega) (fun x hx => by have := gh.bears x hx; omega) (fun t ht => by have := g.most t ht; omega)) (fun r2 h2 hr2 => ?_)
  obtain ⟨x2, sh, cu, ok, rfl, ht, hf⟩ := hr2
  repeat (first | refine hS.seq ?_ | refine hS.regionW ?_ | refine W.pop ?_ | refine W.yes ?_ | refine W.no ?_ | refine W.box (fun _ _ => ?_) | refine W.alloc (fun _ _ => ?_) | refine W.store ?_ | refine W.bs (fun _ _ => ?_) | refine W.fn hS (fun _ _ => ?_) | refine WL.nil ?_ | refine R.condT hS ?_ | refine R.condF hS ?_ | refine hS.skip ?_ | refine hS.block ?_ | refine hS.inBlock ?_ | refine R.ret hS ?_ | refine R.fin hS ?_ | refine R.begin hS ?_ | refine R.endRound hS ?_ | refine R.retRound hS ?_ | refine R.retC hS ?_ | refine R.endRangeDone hS ?_ | refine R.endRangeRet hS ?_)
  refine hc _ _ ⟨x1c.trans x2, sh, cu, ok, rfl, ?_⟩
  simp only [Int.one_mul] at ht hf
  cases ok with
  | true => simpa using ht rfl
  | false =>
    obtain ⟨c, h1, h2, _⟩ := hf rfl
    constructor
    · intro e; cases e
    · intro e; have := e c h1; omega
end Go.Proofs.YtankmjkogcbnfaaDoor
