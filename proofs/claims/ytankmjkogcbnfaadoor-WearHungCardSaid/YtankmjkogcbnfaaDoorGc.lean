/-
  The machine, part six: a call without a caller: what a walk of the bottom frame gives of the whole run.
-/
import Derived.Test.YtankmjkogcbnfaaDoorGa
import Derived.Conc.LeavingOf
import Derived.Conc.Know
import Derived.Conc.Quits
import Derived.Test.YtankmjkogcbnfaaDoorGb
namespace Go.SL
open Go.Conc

/-- The machine of a list of goroutines. -/
def lm (l : List Goroutine) (w : World) (sl : Option (Nat × Nat)) : Machine := { world := w, gs := l.toArray, rest := { timers := #[], alone := none, slice := sl } }

section
variable {P : Program} {Post : Value → World → Prop}

theorem runT_own {l : List Goroutine} {i : Nat} {g g' : Goroutine} {w w' : World} {sl : Option (Nat × Nat)} {es : Array Event} (hi : l[i]? = some g) (hs : stepG P (i == 0) g w = .go g' w' es) :
    runT P (lm l w sl) i = (.next (lm ((l.map (woken P g g' w')).set i g') w' sl), MemOp.ofEvents i g.frame.fn g.frame.place es) := by
  have hlt : i < l.length := (List.getElem?_eq_some_iff.1 hi).1
  have hgi : l[i] = g := by simpa [hlt] using hi
  have hlt' : i < l.toArray.size := by simpa using hlt
  simp only [runT, lm, Array.swapAt!, hlt', dite_true, Array.swapAt, List.getElem_toArray, hgi, hs, GStep.es]
  simp only [Prod.mk.injEq, and_true, Stepped.next.injEq, Machine.mk.injEq, true_and]
  constructor
  · apply Array.ext
    · split <;> simp
    · intro j h1 h2
      have hj : j < l.length := by simpa using h2
      by_cases e : i = j
      · subst e; split <;> simp
      · by_cases hw : (mayWake P g && g'.status != .blocked && g'.status != .waiting) = true
        · have hsz : l.length > 1 := by omega
          have : (decide ((l.toArray.set i { (default : Goroutine) with status := .finished } hlt').size > 1) && mayWake P g && g'.status != .blocked && g'.status != .waiting) = true := by
            simp only [Array.size_set, List.size_toArray]
            simp only [Bool.and_eq_true] at hw ⊢
            exact ⟨⟨⟨by simpa using hsz, hw.1.1⟩, hw.1.2⟩, hw.2⟩
          simp only [this, if_true]
          simp [e, woken, hw]
        · have : (decide ((l.toArray.set i { (default : Goroutine) with status := .finished } hlt').size > 1) && mayWake P g && g'.status != .blocked && g'.status != .waiting) = false := by
            simp only [Bool.not_eq_true] at hw
            simp only [Bool.and_assoc] at hw ⊢
            rw [hw]; simp
          simp only [this, Bool.false_eq_true, if_false]
          simp [e, woken, hw]
  · simp

theorem runT_spawn {l : List Goroutine} {i : Nat} {g g' child : Goroutine} {w w' : World} {sl : Option (Nat × Nat)} {es : Array Event} (hi : l[i]? = some g) (hs : stepG P (i == 0) g w = .spawn g' child w' es) :
    runT P (lm l w sl) i = (.next (lm (l.set i g' ++ [child]) w' sl), ((MemOp.ofEvents i g.frame.fn g.frame.place es).push { g := i, fn := g.frame.fn, pos := g.frame.place, act := .go l.length }).push { g := l.length, fn := child.frame.fn, pos := g.frame.place, act := .start }) := by
  have hlt : i < l.length := (List.getElem?_eq_some_iff.1 hi).1
  have hgi : l[i] = g := by simpa [hlt] using hi
  have hlt' : i < l.toArray.size := by simpa using hlt
  simp only [runT, lm, Array.swapAt!, hlt', dite_true, Array.swapAt, List.getElem_toArray, hgi, hs, GStep.es]
  simp

theorem runT_ended {l : List Goroutine} {i : Nat} {g : Goroutine} {w w' : World} {sl : Option (Nat × Nat)} {es : Array Event} {o : Outcome} (hi : l[i]? = some g) (hs : stepG P (i == 0) g w = .ended o w' es) :
    runT P (lm l w sl) i = (.ended o w', MemOp.ofEvents i g.frame.fn g.frame.place es) := by
  have hlt : i < l.length := (List.getElem?_eq_some_iff.1 hi).1
  have hgi : l[i] = g := by simpa [hlt] using hi
  have hlt' : i < l.toArray.size := by simpa using hlt
  simp only [runT, lm, Array.swapAt!, hlt', dite_true, Array.swapAt, List.getElem_toArray, hgi, hs, GStep.es]

theorem runT_comm {l : List Goroutine} {i : Nat} {g g₂ : Goroutine} {w w₁ : World} {sl : Option (Nat × Nat)} {es : Array Event} {cases : Array CommCase} {bl : Bool} {sh : CommShape} (hi : l[i]? = some g) (hs : stepG P (i == 0) g w = .comm g₂ cases bl sh w₁ es) :
    runT P (lm l w sl) i = ((communicate P { timers := #[], alone := none, slice := sl } (l.set i { (default : Goroutine) with status := .finished }).toArray i g₂ cases bl sh w₁).1,
      MemOp.ofEvents i g.frame.fn g.frame.place es ++ (communicate P { timers := #[], alone := none, slice := sl } (l.set i { (default : Goroutine) with status := .finished }).toArray i g₂ cases bl sh w₁).2) := by
  have hlt : i < l.length := (List.getElem?_eq_some_iff.1 hi).1
  have hgi : l[i] = g := by simpa [hlt] using hi
  have hlt' : i < l.toArray.size := by simpa using hlt
  simp only [runT, lm, Array.swapAt!, hlt', dite_true, Array.swapAt, List.getElem_toArray, hgi, hs, GStep.es, List.set_toArray]

/-! ### who waits at a channel -/
theorem partners_split (l : List Goroutine) (r : Nat) (s : Bool) : partners l.toArray r s = l.zipIdx.flatMap fun (h, i) =>
    match h.status, h.offers with
    | .blocked, some (cs, _) => (cs.zipIdx.toList.filter fun (c, _) => c.send.isSome == s && (match c.chan with | .chan (some r') => r' == r | _ => false)).map fun (_, k) => (i, k)
    | _, _ => [] := by
  unfold partners
  simp
  rfl

theorem partners_none {l : List Goroutine} {r : Nat} {s : Bool} (h : ∀ g ∈ l, g.status ≠ .blocked) : partners l.toArray r s = [] := by
  rw [partners_split, List.flatMap_eq_nil_iff]
  rintro ⟨g, i⟩ hm
  have := h g (List.fst_mem_of_mem_zipIdx hm)
  dsimp only
  cases hs : g.status <;> simp_all

theorem partners_one {l₁ l₂ : List Goroutine} {g : Goroutine} {k : CommCase} {sh : CommShape} {r : Nat} {s : Bool} (h1 : ∀ g ∈ l₁, g.status ≠ .blocked) (h2 : ∀ g ∈ l₂, g.status ≠ .blocked) (hk : k.chan = .chan (some r)) (hs : k.send.isSome = s) :
    partners (l₁ ++ parked g #[k] sh :: l₂).toArray r s = [(l₁.length, 0)] := by
  rw [partners_split, List.zipIdx_append, List.flatMap_append, List.zipIdx_cons, List.flatMap_cons]
  have e1 : ∀ (l : List Goroutine) (n : Nat), (∀ g ∈ l, g.status ≠ .blocked) → ((l.zipIdx n).flatMap fun (h, i) =>
    match h.status, h.offers with
    | .blocked, some (cs, _) => (cs.zipIdx.toList.filter fun (c, _) => c.send.isSome == s && (match c.chan with | .chan (some r') => r' == r | _ => false)).map fun (_, k) => (i, k)
    | _, _ => ([] : List (Nat × Nat))) = [] := by
    intro l n h
    rw [List.flatMap_eq_nil_iff]
    rintro ⟨g, i⟩ hm
    have := h g (List.fst_mem_of_mem_zipIdx hm)
    dsimp only
    cases hs : g.status <;> simp_all
  rw [e1 _ _ h1, e1 _ _ h2]
  simp [parked, hk, hs]

/-! ### the leavers move at any time -/
def Lv (P : Program) (o : Goroutine) : Prop := ∃ k, QuitsIn P k o
theorem Lv.status {o : Goroutine} (h : Lv P o) : o.status = .running ∨ o.status = .finished := let ⟨_, h⟩ := h; h.status

inductive Qm (P : Program) : List Goroutine → Nat → Prop
  | nil : Qm P [] 0
  | cons {o : Goroutine} {os : List Goroutine} {k m : Nat} (h : QuitsIn P k o) (p : Qm P os m) : Qm P (o :: os) (k + m)

theorem Qm.of : ∀ {os : List Goroutine}, (∀ o ∈ os, Lv P o) → ∃ m, Qm P os m
  | [], _ => ⟨0, .nil⟩
  | o :: os, h => by
    obtain ⟨k, hk⟩ := h o List.mem_cons_self
    obtain ⟨m, hm⟩ := Qm.of (os := os) fun x hx => h x (List.mem_cons_of_mem _ hx)
    exact ⟨k + m, .cons hk hm⟩

theorem Qm.lv {os : List Goroutine} {m : Nat} (h : Qm P os m) : ∀ o ∈ os, Lv P o := by
  induction h with
  | nil => intro o ho; cases ho
  | cons hk _ ih =>
    intro o ho
    rcases List.mem_cons.1 ho with rfl | ho
    · exact ⟨_, hk⟩
    · exact ih o ho

theorem Qm.move {os : List Goroutine} {m : Nat} (h : Qm P os m) : ∀ {j : Nat} {o : Goroutine}, os[j]? = some o → o.status = .running → ∃ o', (∀ w, stepG P false o w = .go o' w #[]) ∧ ∃ m', m' < m ∧ Qm P (os.set j o') m' := by
  induction h with
  | nil => intro j o hj; simp at hj
  | @cons x os k m hk hm ih =>
    intro j o hj hr
    cases j with
    | zero =>
      simp only [List.getElem?_cons_zero, Option.some.injEq] at hj
      subst hj
      cases k with
      | zero => rw [show x.status = .finished from hk] at hr; cases hr
      | succ k =>
        rcases hk with hk | ⟨_, o', hs, hq⟩
        · rw [hk] at hr; cases hr
        · exact ⟨o', hs, k + m, by omega, .cons hq hm⟩
    | succ j =>
      obtain ⟨o', hs, m', hlt, hq⟩ := ih (by simpa using hj) hr
      exact ⟨o', hs, k + m', by omega, .cons hk hq⟩

variable (P Post) in
def Ends (m : Machine) (t : Trace) : Prop := ∃ n last o w' t', runNT P (n + 1) m t = (.ended o w', t') ∧ runN P n m = .next last ∧ step P last = .ended o w' ∧ Conc.Good P Post last o w' t'

theorem Ends.next {m m' : Machine} {t : Trace} {ops : Array MemOp} (h : stepT P m = (.next m', ops)) (x : Ends P Post m' (t ++ ops)) : Ends P Post m t := by
  obtain ⟨n, last, o, w, t', h1, h2, h3, h4⟩ := x
  exact ⟨n + 1, last, o, w, t', by rw [runNT_succ_next h]; exact h1, by rw [runN_succ_next h]; exact h2, h3, h4⟩
theorem Ends.done {m : Machine} {t : Trace} {ops : Array MemOp} {o : Outcome} {w : World} (h : stepT P m = (.ended o w, ops)) (x : Conc.Good P Post m o w (t ++ ops)) : Ends P Post m t :=
  ⟨0, m, o, w, t ++ ops, by simp [runNT, h], rfl, by simp [step, h], x⟩

variable (P Post) in
/-- What is asked of a step's outcome; 'm₀': the machine ahead of the scheduler's draw. -/
def Via (m₀ : Machine) (t : Trace) : Stepped × Array MemOp → Prop
  | (.next m', ops) => Ends P Post m' (t ++ ops)
  | (.ended o w', ops) => Conc.Good P Post m₀ o w' (t ++ ops)

theorem drive {a : Goroutine} {tl : List Goroutine} {n : Nat} {I : World → Trace → Prop} (hI : ∀ w t d, I w t → I (w.at d) t) (haw : ∀ g ∈ a :: tl, awake g) (hrun : ∃ g ∈ a :: tl, g.status = .running)
    (hwk : ∀ w t, I w t → ∀ g ∈ a :: tl, g.again w = g)
    (hstep : ∀ os w sl t i g w₀ sl₀, (∀ o ∈ os, Lv P o) → os.length = n → I w t → (a :: (os ++ tl))[i]? = some g → (i = 0 ∨ n < i) → g.status = .running → Via P Post (lm (a :: (os ++ tl)) w₀ sl₀) t (runT P (lm (a :: (os ++ tl)) w sl) i)) :
    ∀ os w sl t, (∀ o ∈ os, Lv P o) → os.length = n → I w t → Ends P Post (lm (a :: (os ++ tl)) w sl) t := by
  have key : ∀ (m : Nat) os w sl t, Qm P os m → os.length = n → I w t → Ends P Post (lm (a :: (os ++ tl)) w sl) t := by
    intro m
    induction m using Nat.strongRecOn with
    | _ m ih =>
    intro os w sl t hq hn hi
    have hlv := hq.lv
    have haw' : ∀ g ∈ a :: (os ++ tl), awake g := by
      intro g hg
      rcases List.mem_cons.1 hg with rfl | hg
      · exact haw _ List.mem_cons_self
      · rcases List.mem_append.1 hg with hg | hg
        · intro t ht; rcases (hlv g hg).status with h | h <;> rw [h] at ht <;> cases ht
        · exact haw _ (List.mem_cons_of_mem _ hg)
    have hah : ahead (lm (a :: (os ++ tl)) w sl) true = none := by
      have key : ∀ (l : List Goroutine), (∀ g ∈ l, awake g) → ∀ mono : Nat, l.foldl (fun (least : Option Nat) (g : Goroutine) => match g.status with | .sleeping till => (if till ≤ mono then least else match least with | none => some till | some l => some (min l till)) | _ => least) none = none := by
        intro l
        induction l with
        | nil => intros; rfl
        | cons g l ih =>
          intro hl mono
          rw [List.foldl_cons]
          have hg := hl g List.mem_cons_self
          have : (match g.status with | .sleeping till => (if till ≤ mono then (none : Option Nat) else match (none : Option Nat) with | none => some till | some l => some (min l till)) | _ => none) = none := by
            cases hs : g.status <;> simp only []
            exact absurd hs (hg _)
          rw [this]
          exact ih (fun x hx => hl x (List.mem_cons_of_mem _ hx)) mono
      have := key _ haw' w.os.mono
      simp only [ahead, lm, List.foldl_toArray', List.foldl_toArray, Array.foldl_empty] at this ⊢
      exact this
    have hne : runnable (lm (a :: (os ++ tl)) w sl).gs (lm (a :: (os ++ tl)) w sl).world.os.mono ≠ [] := by
      intro e
      obtain ⟨g, hg, hr⟩ := hrun
      have hm : g ∈ a :: (os ++ tl) := by
        rcases List.mem_cons.1 hg with rfl | hg
        · exact List.mem_cons_self
        · exact List.mem_cons_of_mem _ (List.mem_append_right _ hg)
      obtain ⟨i, hi', e'⟩ := List.mem_iff_getElem.1 hm
      have : i ∈ runnable (lm (a :: (os ++ tl)) w sl).gs (lm (a :: (os ++ tl)) w sl).world.os.mono := mem_runnable.2 (by simp only [lm, List.getElem?_toArray, List.getElem?_eq_getElem hi', e', Option.any_some, Goroutine.canRun, hr])
      rw [e] at this; cases this
    obtain ⟨i, hi', d, sl', hs⟩ := stepT_pick (P := P) (m := lm (a :: (os ++ tl)) w sl) rfl rfl (by simp [due, lm]) hah rfl hne
    have hs' : stepT P (lm (a :: (os ++ tl)) w sl) = runT P (lm (a :: (os ++ tl)) (w.at d) sl') i := hs
    have hc := mem_runnable.1 hi'
    cases hg : (a :: (os ++ tl))[i]? with
    | none => simp only [lm, List.getElem?_toArray, hg] at hc; simp at hc
    | some g =>
      have hgr : g.status = .running := (canRun_iff (haw' g (List.mem_of_getElem? hg)) w.os.mono).1 (by simp only [lm, List.getElem?_toArray, hg] at hc; simpa using hc)
      have hid := hI w t d hi
      by_cases hcase : i = 0 ∨ n < i
      · have := hstep os (w.at d) sl' t i g w sl hlv hn hid hg hcase hgr
        cases hr : runT P (lm (a :: (os ++ tl)) (w.at d) sl') i with
        | mk r ops =>
          rw [hr] at this hs'
          cases r with
          | next m' => exact Ends.next hs' this
          | ended o w' => exact Ends.done hs' this
      · obtain ⟨j, rfl⟩ : ∃ j, i = j + 1 := ⟨i - 1, by omega⟩
        have hj : j < os.length := by omega
        have hoj : os[j]? = some g := by simpa [List.getElem?_append_left hj] using hg
        obtain ⟨o', hst, m', hlt, hq'⟩ := hq.move hoj hgr
        have hrt := runT_own (sl := sl') hg (show stepG P ((j + 1) == 0) g (w.at d) = .go o' (w.at d) #[] from hst _)
        have hmap : (a :: (os ++ tl)).map (woken P g o' (w.at d)) = a :: (os ++ tl) := by
          conv => rhs; rw [← List.map_id (a :: (os ++ tl))]
          apply List.map_congr_left
          intro x hx
          have hax : x.again (w.at d) = x := by
            rcases List.mem_cons.1 hx with rfl | hx
            · exact hwk _ _ hid _ List.mem_cons_self
            · rcases List.mem_append.1 hx with hx | hx
              · exact again_running _ (hlv x hx).status
              · exact hwk _ _ hid _ (List.mem_cons_of_mem _ hx)
          simp only [woken, hax, id]
          split <;> rfl
        rw [hmap] at hrt
        have hset : (a :: (os ++ tl)).set (j + 1) o' = a :: (os.set j o' ++ tl) := by simp [List.set_append, hj]
        rw [hset] at hrt
        refine Ends.next (hs'.trans hrt) ?_
        have e0 : MemOp.ofEvents (j + 1) g.frame.fn g.frame.place #[] = #[] := rfl
        rw [e0, Array.append_empty]
        exact ih m' hlt _ _ _ _ hq' (by simpa using hn) hid
  intro os w sl t hlv hn hi
  obtain ⟨m, hm⟩ := Qm.of hlv
  exact key m os w sl t hm hn hi
end
end Go.SL
/-
  What the trace of the machine holds: alone beside leavers ('Calm'); beside one goroutine that works on memory of its own ('Two'); behind that one's close of the channel ('Shut'). And the safety of the first goroutine ('MSafe'), which is a regime.
-/
namespace Go.SL
open Go.Conc

def blk : Loc → Option Nat
  | .cell a => some a.block
  | .obj r => some r
  | _ => none

def TouchOk (h : LH) (x : Touch) : Prop := ∃ b, blk x.loc = some b ∧ h.get b ≠ none ∧ (x.write = true → h.own b)

structure Grows (h h' : LH) : Prop where
  dom : ∀ b, h.get b ≠ none → h'.get b ≠ none
  own : ∀ b, h.own b → h'.own b
theorem Trans.grows {h h' : LH} {w w' : World} {es : Array Event} (x : Trans h w h' w' es) : Grows h h' := ⟨x.dom, x.ownMono⟩
theorem TouchOk.grow {h h' : LH} (g : Grows h h') {x : Touch} (p : TouchOk h x) : TouchOk h' x := let ⟨b, h1, h2, h3⟩ := p; ⟨b, h1, g.dom b h2, fun e => g.own b (h3 e)⟩

theorem EvOk.neutral {h : LH} {e : Event} (p : EvOk h e) : ∀ m, e.loc = .mark m → Neutral m := by
  intro m hm; simp only [EvOk, hm] at p; exact p
theorem EvOk.touch {h : LH} {e : Event} (p : EvOk h e) {x : Touch} (hx : (MemAct.ofEvent e).touch? = some x) : TouchOk h x := by
  obtain ⟨h1, h2⟩ := ofEvent_touch p.neutral hx
  unfold TouchOk
  rw [h1, h2]
  unfold EvOk at p
  cases hl : e.loc <;> simp only [hl] at p ⊢
  · exact ⟨_, rfl, p.2⟩
  · exact ⟨_, rfl, p.2⟩
  · obtain ⟨l, wr, sy⟩ := e
    simp only at hl; subst hl; subst p
    cases wr <;> cases sy <;> simp [MemAct.ofEvent, MemAct.touch?] at hx
  all_goals exact p.elim

/-- Operations of goroutine g's, of which each touch is h's. -/
structure Mine (h : LH) (g : Nat) (u : Trace) : Prop where
  by_ : ∀ op ∈ u, op.g = g
  wordless : Wordless u
  touch : ∀ op ∈ u, ∀ x, op.act.touch? = some x → TouchOk h x

theorem mine_of {h : LH} {g : Nat} {fn : FuncId} {pos : String} {es : Array Event} (p : ∀ e ∈ es, EvOk h e) : Mine h g (MemOp.ofEvents g fn pos es) := by
  rw [ofEvents_eq]
  refine ⟨fun op hop => ?_, fun op hop => ?_, fun op hop => ?_⟩ <;> obtain ⟨e, he, rfl⟩ := Array.mem_map.1 hop
  · rfl
  · exact ofEvent_noMark (p e he).neutral
  · exact fun x hx => (p e he).touch hx

theorem noRace_quiet {said : Bool} {t u : Trace} (h : ¬ Race said t) (hu : ∀ op ∈ u, op.act.touch? = none) : ¬ Race said (t ++ u) := by
  rintro ⟨i, j, hij, ⟨a, b, ha, hb, hc⟩, n1, n2⟩
  obtain ⟨x, hx, hxa⟩ := touch_of ha
  obtain ⟨y, hy, hyb⟩ := touch_of hb
  rcases getElem?_append_cases hy with ⟨hj, hy'⟩ | ⟨hj, hyu⟩
  · have hi : i < t.size := Nat.lt_trans hij hj
    have hx' : t[i]? = some x := by rw [← getElem?_append_old (u := u) hi]; exact hx
    exact h ⟨i, j, hij, ⟨a, b, by simp [Trace.act?, hx', hxa], by simp [Trace.act?, hy', hyb], hc⟩, fun e => n1 (hb_app u e), fun e => n2 (hb_app u e)⟩
  · rw [hu y hyu] at hyb; cases hyb

theorem touchAt_cases {t u : Trace} {i : Nat} {x : Touch} (h : touchAt (t ++ u) i = some x) : touchAt t i = some x ∨ ∃ op ∈ u, (t ++ u)[i]? = some op ∧ op.act.touch? = some x := by
  obtain ⟨op, ho, hx⟩ := touch_of h
  rcases getElem?_append_cases ho with ⟨_, h'⟩ | ⟨_, h'⟩
  · exact .inl (by rw [touchAt_of h', hx])
  · exact .inr ⟨op, h', ho, hx⟩

structure Calm (t : Trace) (n : Nat) : Prop where
  wordless : Wordless t
  norace : ∀ said, ¬ Race said t
  known : ∀ i x, touchAt t i = some x → Knows t 0 i
  lt : ∀ op ∈ t, op.g < n

theorem Calm.add {t u : Trace} {n : Nat} {h : LH} (c : Calm t n) (m : Mine h 0 u) (hn : 0 < n) : Calm (t ++ u) n where
  wordless := c.wordless.append m.wordless
  norace := fun said => noRace_append (c.norace said) m.by_ fun i a ha _ _ _ _ _ => c.known i a ha
  known := fun i x hx => (touchAt_cases hx).elim (fun h => (c.known i x h).app u) fun ⟨op, ho, hi, _⟩ => m.by_ op ho ▸ knows_own hi
  lt := fun op ho => (Array.mem_append.1 ho).elim (c.lt op) fun h => m.by_ op h ▸ hn

theorem Calm.handed {t : Trace} {n : Nat} (c : Calm t n) : t.HandedOver := by
  rintro i g hg hne ⟨x, hx, _, _⟩
  obtain ⟨q, z, h1, h2, h3⟩ := c.known i x hx
  refine ⟨q, by simp [Trace.g?, h1, h2], ?_⟩
  rcases h3 with rfl | h3
  · simp [Trace.g?, h1, h2] at hg; exact absurd hg.symm hne
  · exact h3

structure Apart (hA hB : LH) (c : Nat) : Prop where
  ab : ∀ b, hA.own b → hB.get b = none
  ba : ∀ b, hB.own b → hA.get b = none
  ca : hA.get c = none
  cb : hB.get c = none

theorem Apart.symm {hA hB : LH} {c : Nat} (p : Apart hA hB c) : Apart hB hA c := ⟨p.ba, p.ab, p.cb, p.ca⟩

theorem Apart.clash {hA hB : LH} {c : Nat} (p : Apart hA hB c) {x y : Touch} (hx : TouchOk hA x) (hy : TouchOk hB y) (hl : x.loc = y.loc) (hw : x.write = true ∨ y.write = true) : False := by
  obtain ⟨b, h1, h2, h3⟩ := hx
  obtain ⟨b', k1, k2, k3⟩ := hy
  rw [← hl, h1] at k1
  cases k1
  rcases hw with hw | hw
  · exact k2 (p.ab _ (h3 hw))
  · exact h2 (p.ba _ (k3 hw))

theorem fits_lt {h : LH} {w : World} (hf : Fits h w) {b : Nat} {o : Obj} (hb : h.get b = some o) : b < w.heap.size := (Array.getElem?_eq_some_iff.1 (hf.get _ _ hb)).1

/-- A step of the one: the other's memory, and the channel, stay. -/
theorem Apart.step {hA hB hA' : LH} {c : Nat} {w w' : World} {es : Array Event} {ch : Obj} (p : Apart hA hB c) (hf : Fits hB w) (hfa : Fits hA w) (hc : w.heap[c]? = some ch) (x : Trans hA w hA' w' es) : Apart hA' hB c ∧ Fits hB w' ∧ w'.heap[c]? = some ch := by
  have hcl : c < w.heap.size := (Array.getElem?_eq_some_iff.1 hc).1
  have own_get : ∀ b, hA.own b → hA.get b ≠ none := fun b hb => by obtain ⟨o, ho⟩ := hfa.own b hb; rw [ho]; simp
  have noc : ¬ hA.own c := fun h => own_get c h p.ca
  have new : ∀ b, hA.get b = none → b < w.heap.size → hA'.get b = none := by
    intro b hb hlt
    have hno : ¬ hA'.own b := fun h => (x.ownNew b h).elim (fun h => own_get b h hb) (fun h => by omega)
    rw [x.ro b hno]; exact hb
  refine ⟨⟨fun b hb => ?_, fun b hb => ?_, new c p.ca hcl, p.cb⟩, ⟨fun b o hb => ?_, hf.own⟩, ?_⟩
  · rcases x.ownNew b hb with h | h
    · exact p.ab b h
    · cases hg : hB.get b with
      | none => rfl
      | some o => have := fits_lt hf hg; omega
  · obtain ⟨o, ho⟩ := hf.own b hb
    exact new b (p.ba b hb) (fits_lt hf ho)
  · rw [x.keep b (fits_lt hf hb) (fun h => by rw [p.ab b h] at hb; cases hb)]; exact hf.get _ _ hb
  · rw [x.keep c hcl noc]; exact hc

structure Two (t : Trace) (n : Nat) (hA hB : LH) : Prop where
  wordless : Wordless t
  norace : ∀ said, ¬ Race said t
  lt : ∀ op ∈ t, op.g < n + 1
  ka : ∀ i x, touchAt t i = some x → Knows t 0 i ∨ (Knows t n i ∧ TouchOk hB x)
  kb : ∀ i x, touchAt t i = some x → Knows t n i ∨ TouchOk hA x

theorem Two.addA {t u : Trace} {n c : Nat} {hA hB hA' : LH} (p : Two t n hA hB) (q : Apart hA' hB c) (g : Grows hA hA') (m : Mine hA' 0 u) : Two (t ++ u) n hA' hB where
  wordless := p.wordless.append m.wordless
  norace := fun said => noRace_append (p.norace said) m.by_ fun i a ha op hop b hb hc => (p.ka i a ha).resolve_right fun ⟨_, h⟩ => q.clash (m.touch op hop b hb) h hc.1.symm (by have := hc.2.2.1; simpa [or_comm] using this)
  lt := fun op ho => (Array.mem_append.1 ho).elim (p.lt op) fun h => by rw [m.by_ op h]; omega
  ka := fun i x hx => (touchAt_cases hx).elim (fun h => (p.ka i x h).imp (·.app u) fun ⟨h1, h2⟩ => ⟨h1.app u, h2⟩) fun ⟨op, ho, hi, _⟩ => .inl (m.by_ op ho ▸ knows_own hi)
  kb := fun i x hx => (touchAt_cases hx).elim (fun h => (p.kb i x h).imp (·.app u) (·.grow g)) fun ⟨op, ho, _, hx⟩ => .inr (m.touch op ho x hx)

theorem Two.addB {t u : Trace} {n c : Nat} {hA hB hB' : LH} (p : Two t n hA hB) (q : Apart hA hB' c) (g : Grows hB hB') (m : Mine hB' n u) : Two (t ++ u) n hA hB' where
  wordless := p.wordless.append m.wordless
  norace := fun said => noRace_append (p.norace said) m.by_ fun i a ha op hop b hb hc => (p.kb i a ha).resolve_right fun h => q.clash h (m.touch op hop b hb) hc.1 (by have := hc.2.2.1; simpa using this)
  lt := fun op ho => (Array.mem_append.1 ho).elim (p.lt op) fun h => by rw [m.by_ op h]; omega
  ka := fun i x hx => (touchAt_cases hx).elim (fun h => (p.ka i x h).imp (·.app u) fun ⟨h1, h2⟩ => ⟨h1.app u, h2.grow g⟩) fun ⟨op, ho, hi, hx⟩ => .inr ⟨m.by_ op ho ▸ knows_own hi, m.touch op ho x hx⟩
  kb := fun i x hx => (touchAt_cases hx).elim (fun h => (p.kb i x h).imp (·.app u) id) fun ⟨op, ho, hi, _⟩ => .inl (m.by_ op ho ▸ knows_own hi)

/-- Operations that touch no memory and say no word. -/
structure Mute (n : Nat) (u : Trace) : Prop where
  lt : ∀ op ∈ u, op.g < n
  wordless : Wordless u
  touch : ∀ op ∈ u, op.act.touch? = none

theorem Two.addC {t u : Trace} {n : Nat} {hA hB : LH} (p : Two t n hA hB) (m : Mute (n + 1) u) : Two (t ++ u) n hA hB where
  wordless := p.wordless.append m.wordless
  norace := fun said => noRace_quiet (p.norace said) m.touch
  lt := fun op ho => (Array.mem_append.1 ho).elim (p.lt op) (m.lt op)
  ka := fun i x hx => (touchAt_cases hx).elim (fun h => (p.ka i x h).imp (·.app u) fun ⟨h1, h2⟩ => ⟨h1.app u, h2⟩) fun ⟨op, ho, _, hx⟩ => by rw [m.touch op ho] at hx; cases hx
  kb := fun i x hx => (touchAt_cases hx).elim (fun h => (p.kb i x h).imp (·.app u) id) fun ⟨op, ho, _, hx⟩ => by rw [m.touch op ho] at hx; cases hx

/-- The go statement. -/
theorem Calm.fork {t : Trace} {n : Nat} {hA hB : LH} (c : Calm t n) (_hn : 0 < n) {x y : MemOp} (hx : x.g = 0 ∧ x.act = .go n) (hy : y.g = n ∧ y.act = .start) : Two ((t.push x).push y) n hA hB := by
  have e : (t.push x).push y = t ++ #[x, y] := by apply Array.ext'; simp
  have hw : Wordless (t ++ #[x, y]) := c.wordless.append fun op hop => by
    simp at hop; rcases hop with rfl | rfl
    · intro m; rw [hx.2]; simp
    · intro m; rw [hy.2]; simp
  have gx : (t ++ #[x, y])[t.size]? = some x := by rw [Array.getElem?_append_right (Nat.le_refl _)]; simp
  have gy : (t ++ #[x, y])[t.size + 1]? = some y := by rw [Array.getElem?_append_right (Nat.le_succ _)]; simp
  have sp : HappensBefore (t ++ #[x, y]) t.size (t.size + 1) := .single (.inr ⟨.spawn (child := n) (by rw [act?_of gx, hx.2]) (by rw [act?_of gy, hy.2]) (by simp only [Trace.g?, gy, Option.map_some, hy.1]), hw.heard gx, hw.heard gy⟩)
  have tn : ∀ op ∈ #[x, y], op.act.touch? = none := fun op hop => by
    simp at hop; rcases hop with rfl | rfl
    · rw [hx.2]; rfl
    · rw [hy.2]; rfl
  rw [e]
  refine ⟨hw, fun said => noRace_quiet (c.norace said) tn, fun op ho => ?_, fun i z hz => ?_, fun i z hz => ?_⟩
  · rcases Array.mem_append.1 ho with h | h
    · have := c.lt op h; omega
    · simp at h; rcases h with rfl | rfl
      · rw [hx.1]; omega
      · rw [hy.1]; omega
  · refine (touchAt_cases hz).elim (fun h => .inl ((c.known i z h).app _)) fun ⟨op, ho, _, h⟩ => by rw [tn op ho] at h; cases h
  · refine (touchAt_cases hz).elim (fun h => .inl ?_) fun ⟨op, ho, _, h⟩ => by rw [tn op ho] at h; cases h
    refine ⟨t.size + 1, y, gy, hy.1, .inr (Relation.TransGen.trans ?_ sp)⟩
    exact (c.known i z h).hb_new (Nat.le_refl _) gx hx.1

/-- Behind the close, at q, by goroutine n. -/
structure Shut (t : Trace) (n c : Nat) (hB : LH) : Prop where
  wordless : Wordless t
  norace : ∀ said, ¬ Race said t
  lt : ∀ op ∈ t, op.g < n + 1
  ka : ∃ q z, t[q]? = some z ∧ z.act = .close c ∧ ∀ i x, touchAt t i = some x → Knows t 0 i ∨ (Before t i q ∧ (TouchOk hB x ∨ x.loc = .obj c))

theorem Two.close {t u : Trace} {n c : Nat} {hA hB : LH} (p : Two t n hA hB) (q : Apart hA hB c) {y z : MemOp} (hy : y.g = n ∧ y.act = .access ⟨.obj c, false, true⟩) (hz : z.g = n ∧ z.act = .close c) (hu : u = #[y, z]) : Shut (t ++ u) n c hB := by
  subst hu
  have gy : (t ++ #[y, z])[t.size]? = some y := by rw [Array.getElem?_append_right (Nat.le_refl _)]; simp
  have gz : (t ++ #[y, z])[t.size + 1]? = some z := by rw [Array.getElem?_append_right (Nat.le_succ _)]; simp
  have hby : ∀ op ∈ #[y, z], op.g = n := fun op hop => by
    simp at hop; rcases hop with rfl | rfl
    · exact hy.1
    · exact hz.1
  have hw : Wordless (t ++ #[y, z]) := p.wordless.append fun op hop => by
    simp at hop; rcases hop with rfl | rfl
    · intro m; rw [hy.2]; simp
    · intro m; rw [hz.2]; simp
  have hto : ∀ op ∈ #[y, z], ∀ x, op.act.touch? = some x → op = y ∧ x.loc = .obj c ∧ x.write = false := fun op hop x hx => by
    simp at hop; rcases hop with rfl | rfl
    · rw [hy.2] at hx; simp [MemAct.touch?] at hx; exact ⟨rfl, by rw [← hx], by rw [← hx]⟩
    · rw [hz.2] at hx; simp [MemAct.touch?] at hx
  refine ⟨hw, fun said => noRace_append (p.norace said) hby fun i a ha op hop b hb hc => ?_, fun op ho => ?_, t.size + 1, z, gz, hz.2, fun i x hx => ?_⟩
  · refine (p.kb i a ha).resolve_right fun h => ?_
    obtain ⟨b', h1, h2, _⟩ := h
    rw [hc.1, (hto op hop b hb).2.1] at h1
    cases h1
    exact h2 q.ca
  · exact (Array.mem_append.1 ho).elim (p.lt op) fun h => by rw [hby op h]; omega
  · rcases touchAt_cases hx with h | ⟨op, ho, hi, h⟩
    · rcases p.ka i x h with h | ⟨h1, h2⟩
      · exact .inl (h.app _)
      · exact .inr ⟨.inr (h1.hb_new (Nat.le_succ _) gz hz.1), .inl h2⟩
    · obtain ⟨rfl, h2, _⟩ := hto op ho x h
      refine .inr ⟨?_, .inr h2⟩
      have hlt : i < t.size + 2 := by have := lt_size_of_getElem? hi; simpa using this
      by_cases e : i = t.size + 1
      · exact .inl e
      · exact .inr (hb_po (by omega) hi gz (hy.1.trans hz.1.symm))

theorem Shut.addA {t u : Trace} {n c : Nat} {hA hB : LH} (p : Shut t n c hB) (q : Apart hA hB c) (m : Mine hA 0 u) : Shut (t ++ u) n c hB := by
  obtain ⟨p1, p2, p3, k, z, hk, hz, p4⟩ := p
  refine ⟨p1.append m.wordless, fun said => noRace_append (p2 said) m.by_ fun i a ha op hop b hb hc => (p4 i a ha).resolve_right ?_, fun op ho => ?_, k, z, by rw [getElem?_append_old (lt_size_of_getElem? hk)]; exact hk, hz, fun i x hx => ?_⟩
  · rintro ⟨_, h | h⟩
    · exact q.clash (m.touch op hop b hb) h hc.1.symm (by have := hc.2.2.1; simpa [or_comm] using this)
    · obtain ⟨b', h1, h2, _⟩ := m.touch op hop b hb
      rw [← hc.1, h] at h1
      cases h1
      exact h2 q.ca
  · exact (Array.mem_append.1 ho).elim (p3 op) fun h => by rw [m.by_ op h]; omega
  · exact (touchAt_cases hx).elim (fun h => (p4 i x h).imp (·.app u) fun ⟨h1, h2⟩ => ⟨h1.app u, h2⟩) fun ⟨op, ho, hi, _⟩ => .inl (m.by_ op ho ▸ knows_own hi)

theorem Shut.heard {t : Trace} {n c : Nat} {hB : LH} (p : Shut t n c hB) {y : MemOp} (hy : y.g = 0 ∧ y.act = .recvClosed c) : Calm (t ++ #[y]) (n + 1) := by
  obtain ⟨p1, p2, p3, k, z, hk, hz, p4⟩ := p
  have gy : (t ++ #[y])[t.size]? = some y := by rw [Array.getElem?_append_right (Nat.le_refl _)]; simp
  have gk : (t ++ #[y])[k]? = some z := by rw [getElem?_append_old (lt_size_of_getElem? hk)]; exact hk
  have hw : Wordless (t ++ #[y]) := p1.append fun op hop => by simp at hop; subst hop; intro m; rw [hy.2]; simp
  have tn : ∀ op ∈ #[y], op.act.touch? = none := fun op hop => by simp at hop; subst hop; rw [hy.2]; rfl
  refine ⟨hw, fun said => noRace_quiet (p2 said) tn, fun i x hx => ?_, fun op ho => ?_⟩
  · rcases touchAt_cases hx with h | ⟨op, ho, _, h⟩
    · rcases p4 i x h with h | ⟨h, _⟩
      · exact h.app _
      · exact ⟨t.size, y, gy, hy.1, .inr ((h.app _).hb (.single (.inr ⟨.closed (c := c) (by rw [act?_of gk, hz]) (by rw [act?_of gy, hy.2]), hw.heard gk, hw.heard gy⟩)))⟩
    · rw [tn op ho] at h; cases h
  · rcases Array.mem_append.1 ho with h | h
    · exact p3 op h
    · simp at h; subst h; rw [hy.1]; omega

/-! ### the first goroutine, beside leavers -/
structure Same (W w : World) : Prop where
  os : w.os = W.os
  output : w.output = W.output
  tape : w.tape = W.tape
  size : W.heap.size ≤ w.heap.size
theorem Same.at {W w : World} (p : Same W w) (d : Nat) : Same W (w.at d) := ⟨p.os, p.output, p.tape, p.size⟩
theorem Same.step {W w w' : World} {h h' : LH} {es : Array Event} (p : Same W w) (x : Trans h w h' w' es) : Same W w' := ⟨x.os.trans p.os, x.output.trans p.output, x.tape.trans p.tape, Nat.le_trans p.size x.size⟩
theorem Fits.at {h : LH} {w : World} (p : Fits h w) (d : Nat) : Fits h (w.at d) := ⟨p.get, p.own⟩

section
variable (P : Program) (Post : Value → World → Prop) (W : World)
def MSafe (h : LH) (a : Goroutine) : Prop :=
  ∀ os w sl t, (∀ o ∈ os, Lv P o) → Fits h w → Calm t (os.length + 1) → Same W w → Ends P Post (lm (a :: os) w sl) t
variable {P Post W}

theorem map_woken {l : List Goroutine} {g g' : Goroutine} {w' : World} (h : ∀ o ∈ l, o.again w' = o) : l.map (woken P g g' w') = l := by
  conv => rhs; rw [← List.map_id l]
  apply List.map_congr_left
  intro x hx
  simp only [woken, h x hx, id]
  split <;> rfl

theorem msafe_drive {h : LH} {a : Goroutine} (hr : a.status = .running)
    (x : ∀ os w sl t w₀ sl₀, (∀ o ∈ os, Lv P o) → Fits h w → Calm t (os.length + 1) → Same W w → Via P Post (lm (a :: os) w₀ sl₀) t (runT P (lm (a :: os) w sl) 0)) : MSafe P Post W h a := by
  intro os w sl t hlv hf hc hs
  have := drive (P := P) (Post := Post) (a := a) (tl := []) (n := os.length) (I := fun w t => Fits h w ∧ Calm t (os.length + 1) ∧ Same W w) (fun w t d ⟨h1, h2, h3⟩ => ⟨h1.at d, h2, h3.at d⟩)
    (fun g hg => by simp at hg; subst hg; intro t ht; rw [hr] at ht; cases ht) ⟨a, by simp, hr⟩ (fun w t _ g hg => by simp at hg; subst hg; exact again_running _ (.inl hr)) ?_ os w sl t hlv rfl ⟨hf, hc, hs⟩
  · simpa using this
  · intro os' w sl t i g w₀ sl₀ hlv hn ⟨h1, h2, h3⟩ hg hi hgr
    rcases hi with rfl | hi
    · simp only [List.append_nil]
      exact x os' w sl t w₀ sl₀ hlv h1 (hn ▸ h2) h3
    · have := (List.getElem?_eq_some_iff.1 hg).1
      simp at this
      omega

theorem msafe_regime : Regime P true (MSafe P Post W) := by
  refine ⟨fun h a hr hst => msafe_drive hr fun os w sl t w₀ sl₀ hlv hf hc hs => ?_⟩
  obtain ⟨a', w', es, h', h1, h2, h3, h4⟩ := hst w hf
  rw [runT_own (l := a :: os) (i := 0) (g := a) rfl h1]
  have e : ((a :: os).map (woken P a a' w')).set 0 a' = a' :: os := by
    rw [List.map_cons, List.set_cons_zero, map_woken fun o ho => again_running _ (hlv o ho).status]
  rw [e]
  exact h4 os w' sl _ hlv h3.fits (hc.add (mine_of h3.evs) (by omega)) (hs.step h3)

theorem msafe_ret {h : LH} {a : Goroutine} (hr : a.status = .running)
    (x : ∀ w, Fits h w → Same W w → ∃ v es w' h', stepG P true a w = .ended (.done v) w' es ∧ Trans h w h' w' es ∧ Post v w') : MSafe P Post W h a := by
  refine msafe_drive hr fun os w sl t w₀ sl₀ hlv hf hc hs => ?_
  obtain ⟨v, es, w', h', h1, h2, h3⟩ := x w hf hs
  rw [runT_ended (l := a :: os) (i := 0) (g := a) rfl h1]
  have hc' := hc.add (mine_of (fn := a.frame.fn) (pos := a.frame.place) (g := 0) h2.evs) (by omega)
  refine ⟨v, rfl, h3, hc'.norace, hc'.handed, ⟨fun g hg => ?_, rfl⟩, fun i g hg hne => ?_⟩
  · have : g ∈ os := by simpa [lm] using hg
    obtain ⟨k, hk⟩ := hlv g this
    exact ⟨k, hk.leaves⟩
  · have : g ∈ os := by
      obtain ⟨j, rfl⟩ : ∃ j, i = j + 1 := ⟨i - 1, by omega⟩
      have : os[j]? = some g := by simpa [lm] using hg
      exact List.mem_of_getElem? this
    obtain ⟨k, hk⟩ := hlv g this
    rw [hc'.wordless.deaf]
    exact ⟨k, hk.hears _ 0⟩
end
end Go.SL
/-
  One goroutine that sends on a channel without a buffer and closes it, one that receives: each judged by itself over memory of its own ('SendReg', 'RecvReg'); whatever the schedule, the first goroutine stays safe ('msafe_main').
-/
namespace Go.SL
open Go.Conc

/-! ### what happens at the channel -/
section
variable {P : Program} {w : World} {sl : Option (Nat × Nat)} {c s r : Nat} {tm : Bool} {v z z' : Value} {os : List Goroutine} {a₂ b₂ : Goroutine}

abbrev idle : Goroutine := { (default : Goroutine) with status := .finished }
abbrev rest0 (sl : Option (Nat × Nat)) : Rest := { timers := #[], alone := none, slice := sl }

theorem com_send_waits {l : List Goroutine} {i : Nat} (hn : ∀ g ∈ l, g.status ≠ .blocked) (hc : w.heap[c]? = some (.chan 0 #[] false s r tm)) :
    communicate P (rest0 sl) l.toArray i b₂ #[scase c v z] true .send w = (.next (lm (l.set i (parked b₂ #[scase c v z] .send)) w sl), #[]) := by
  have hp : partners l.toArray c false = [] := partners_none hn
  simp [communicate, ways, scase, hc, hp, waitingAt, timerAhead, parked, lm, rest0]

theorem com_recv_waits {l : List Goroutine} {i : Nat} (hn : ∀ g ∈ l, g.status ≠ .blocked) (hc : w.heap[c]? = some (.chan 0 #[] false s r tm)) :
    communicate P (rest0 sl) l.toArray i a₂ #[rcase c z] true (.recv true) w = (.next (lm (l.set i (parked a₂ #[rcase c z] (.recv true))) w sl), #[]) := by
  have hp : partners l.toArray c true = [] := partners_none hn
  simp [communicate, ways, rcase, hc, hp, waitingAt, timerAhead, parked, lm, rest0]

theorem com_recv_closed {l : List Goroutine} {i : Nat} (hn : ∀ g ∈ l, g.status ≠ .blocked) (hc : w.heap[c]? = some (.chan 0 #[] true s r tm)) :
    communicate P (rest0 sl) l.toArray i a₂ #[rcase c z] true (.recv true) w = (.next (lm (l.set i (Conc.served a₂ (.tuple #[z, .bool false]))) w sl), #[{ g := i, fn := a₂.frame.fn, pos := a₂.frame.place, act := .recvClosed c }]) := by
  have hp : partners l.toArray c true = [] := partners_none hn
  simp [communicate, ways, rcase, hc, hp, choose, Sem.run, Question.forced, bind, Sem.bind, pure, Goroutine.finishComm, commResult, Conc.served, lm, rest0]

theorem com_recv_meets (hn : ∀ g ∈ os, g.status ≠ .blocked) (hc : w.heap[c]? = some (.chan 0 #[] false s r tm)) :
    communicate P (rest0 sl) (idle :: (os ++ [parked b₂ #[scase c v z'] .send])).toArray 0 a₂ #[rcase c z] true (.recv true) w = (.next (lm (Conc.served a₂ (.tuple #[v, .bool true]) :: (os ++ [Conc.served b₂ undef])) (w.passed c s r tm) sl),
      #[{ g := os.length + 1, fn := b₂.frame.fn, pos := b₂.frame.place, act := .send c s }, { g := 0, fn := a₂.frame.fn, pos := a₂.frame.place, act := .recv c r 0 },
        { g := os.length + 1, fn := b₂.frame.fn, pos := b₂.frame.place, act := .sendDone c s }, { g := 0, fn := a₂.frame.fn, pos := a₂.frame.place, act := .recvDone c r }]) := by
  have hp : partners (idle :: (os ++ [parked b₂ #[scase c v z'] .send])).toArray c true = [(os.length + 1, 0)] := by
    have := partners_one (l₁ := idle :: os) (l₂ := []) (g := b₂) (k := scase c v z') (sh := .send) (r := c) (s := true) (fun g hg => by
      rcases List.mem_cons.1 hg with rfl | hg
      · simp
      · exact hn g hg) (by simp) rfl rfl
    simpa using this
  have hg : (idle :: (os ++ [parked b₂ #[scase c v z'] .send])).toArray[os.length + 1]? = some (parked b₂ #[scase c v z'] .send) := by simp
  have hm : ∀ f : Goroutine → Goroutine, (idle :: (os ++ [parked b₂ #[scase c v z'] .send])).toArray.modify (os.length + 1) f = (idle :: (os ++ [f (parked b₂ #[scase c v z'] .send)])).toArray := by
    intro f
    apply Array.ext
    · simp
    · intro j h1 h2
      have hj : j < os.length + 2 := by simpa using h2
      by_cases e : os.length + 1 = j
      · subst e; simp
      · rw [Array.getElem_modify_of_ne e]
        cases j with
        | zero => simp
        | succ j =>
          have : j < os.length := by omega
          simp [this]
  have hof : offeredValue (idle :: (os ++ [parked b₂ #[scase c v z'] .send])).toArray (os.length + 1) 0 = v := by
    unfold offeredValue
    rw [hg]
    simp [parked, scase]
  have hd : (idle :: (os ++ [parked b₂ #[scase c v z'] .send])).toArray.getD (os.length + 1) default = parked b₂ #[scase c v z'] .send := by
    rw [Array.getD_eq_getD_getElem?, hg]; rfl
  have hf : finishPartner P (idle :: (os ++ [parked b₂ #[scase c v z'] .send])).toArray (os.length + 1) 0 undef = (idle :: (os ++ [Conc.served b₂ undef])).toArray := by
    unfold finishPartner
    rw [hm]
    simp [parked, scase, Goroutine.finishComm, commResult, Conc.served]
  generalize hgs : (idle :: (os ++ [parked b₂ #[scase c v z'] .send])).toArray = gs at *
  simp [communicate, ways, rcase, hc, hp, choose, hof, hd, hf, Sem.run, Question.forced, bind, Sem.bind, pure, Goroutine.finishComm, commResult, Conc.served, World.passed, lm, rest0]
  simp [parked]

theorem com_send_meets (hn : ∀ g ∈ os, g.status ≠ .blocked) (hc : w.heap[c]? = some (.chan 0 #[] false s r tm)) :
    communicate P (rest0 sl) (parked a₂ #[rcase c z] (.recv true) :: (os ++ [idle])).toArray (os.length + 1) b₂ #[scase c v z'] true .send w = (.next (lm (Conc.served a₂ (.tuple #[v, .bool true]) :: (os ++ [Conc.served b₂ undef])) (w.passed c s r tm) sl),
      #[{ g := os.length + 1, fn := b₂.frame.fn, pos := b₂.frame.place, act := .send c s }, { g := 0, fn := a₂.frame.fn, pos := a₂.frame.place, act := .recv c r 0 },
        { g := os.length + 1, fn := b₂.frame.fn, pos := b₂.frame.place, act := .sendDone c s }, { g := 0, fn := a₂.frame.fn, pos := a₂.frame.place, act := .recvDone c r }]) := by
  have hp : partners (parked a₂ #[rcase c z] (.recv true) :: (os ++ [idle])).toArray c false = [(0, 0)] := by
    have := partners_one (l₁ := []) (l₂ := os ++ [idle]) (g := a₂) (k := rcase c z) (sh := .recv true) (r := c) (s := false) (by simp) (fun g hg => by
      rcases List.mem_append.1 hg with hg | hg
      · exact hn g hg
      · simp at hg; subst hg; simp) rfl rfl
    simpa using this
  have hm : ∀ f : Goroutine → Goroutine, (parked a₂ #[rcase c z] (.recv true) :: (os ++ [idle])).toArray.modify 0 f = (f (parked a₂ #[rcase c z] (.recv true)) :: (os ++ [idle])).toArray := by
    intro f
    apply Array.ext
    · simp
    · intro j h1 h2
      by_cases e : 0 = j
      · subst e; simp
      · rw [Array.getElem_modify_of_ne e]
        cases j with
        | zero => exact absurd rfl e
        | succ j => simp
  have hd : (parked a₂ #[rcase c z] (.recv true) :: (os ++ [idle])).toArray.getD 0 default = parked a₂ #[rcase c z] (.recv true) := by
    simp
  have hf : finishPartner P (parked a₂ #[rcase c z] (.recv true) :: (os ++ [idle])).toArray 0 0 v = (Conc.served a₂ (.tuple #[v, .bool true]) :: (os ++ [idle])).toArray := by
    unfold finishPartner
    rw [hm]
    simp [parked, rcase, Goroutine.finishComm, commResult, Conc.served]
  generalize hgs : (parked a₂ #[rcase c z] (.recv true) :: (os ++ [idle])).toArray = gs at *
  simp [communicate, ways, scase, hc, hp, choose, hd, hf, Sem.run, Question.forced, bind, Sem.bind, pure, Goroutine.finishComm, commResult, Conc.served, World.passed, lm, rest0]
  simp [parked]
end
end Go.SL
/-
  The phase in which a second goroutine sends: 'SendReg', 'RecvReg', and the composition ('msafe_spawn').
-/
namespace Go.SL
open Go.Conc

section
variable (P : Program) (c : Nat)
/-- A family of sets of states (by the values still to be sent) that holds of a sender if it holds behind what it does. -/
structure SendReg (Sf : List Value → LH → Goroutine → Prop) : Prop where
  own : ∀ vs, Regime P false (Sf vs)
  send : ∀ v vs h g z, g.status = .running → (∀ w, Fits h w → stepG P false g w = .comm (core g) #[scase c v z] true .send w #[]) → Sf vs h (Conc.served (core g) undef) → Sf (v :: vs) h g
  close : ∀ h g g₂ k, g.status = .running → mayWake P g = true → (∀ w s r tm, w.heap[c]? = some (.chan 0 #[] false s r tm) → stepG P false g w = .go g₂ (w.shut c s r tm) #[⟨.obj c, false, true⟩, ⟨.obj c, true, true⟩]) → QuitsIn P k g₂ → Sf [] h g

/-- .. of a receiver (by the values still to come); Fin: once it has found the channel closed. -/
structure RecvReg (z : Value) (Fin : LH → Goroutine → Prop) (Tf : List Value → LH → Goroutine → Prop) : Prop where
  own : ∀ vs, Regime P true (Tf vs)
  recv : ∀ v vs h g, g.status = .running → (∀ w, Fits h w → stepG P true g w = .comm (core g) #[rcase c z] true (.recv true) w #[]) → Tf vs h (Conc.served (core g) (.tuple #[v, .bool true])) → Tf (v :: vs) h g
  stop : ∀ h g, g.status = .running → (∀ w, Fits h w → stepG P true g w = .comm (core g) #[rcase c z] true (.recv true) w #[]) → Fin h (Conc.served (core g) (.tuple #[z, .bool false])) → Tf [] h g

def Sender (vs : List Value) (h : LH) (g : Goroutine) : Prop := ∀ Sf, SendReg P c Sf → Sf vs h g
def Receiver (z : Value) (Fin : LH → Goroutine → Prop) (vs : List Value) (h : LH) (g : Goroutine) : Prop := ∀ Tf, RecvReg P c z Fin Tf → Tf vs h g
end

section
variable {P : Program} {c : Nat}

theorem StepL.mono {main : Bool} {h : LH} {g : Goroutine} {K K' : LH → Goroutine → Prop} (x : StepL P main h g K) (hk : ∀ h g, K h g → K' h g) : StepL P main h g K' := fun w hf =>
  let ⟨g', w', es, h', h1, h2, h3, h4⟩ := x w hf; ⟨g', w', es, h', h1, h2, h3, hk _ _ h4⟩

theorem sender_reg : SendReg P c (Sender P c) where
  own := fun vs => ⟨fun h g hr x Sf hS => (hS.own vs).step h g hr (x.mono fun h g y => y Sf hS)⟩
  send := fun v vs h g z hr hs hn Sf hS => hS.send v vs h g z hr hs (hn Sf hS)
  close := fun h g g₂ k hr hw hs hq Sf hS => hS.close h g g₂ k hr hw hs hq

theorem Sender.running {vs : List Value} {h : LH} {g : Goroutine} (x : Sender P c vs h g) : g.status = .running :=
  x (fun _ _ g => g.status = .running) ⟨fun _ => ⟨fun _ _ hr _ => hr⟩, fun _ _ _ _ _ hr _ _ => hr, fun _ _ _ _ hr _ _ _ => hr⟩

theorem woken_eq {g g' o : Goroutine} {w' : World} (h : o.again w' = o) : woken P g g' w' o = o := by
  unfold woken
  split
  · exact h
  · rfl

variable (P c) in
/-- The sender runs, or waits at the channel. -/
def SendP (vs : List Value) (h : LH) (b : Goroutine) : Prop :=
  Sender P c vs h b ∨ ∃ v vs' g z, vs = v :: vs' ∧ b = parked (core g) #[scase c v z] .send ∧ Sender P c vs' h (Conc.served (core g) undef)

variable {Post : Value → World → Prop} {W : World}

variable (P c Post W) in
def ConfO (hA : LH) (a : Goroutine) (hB : LH) (b : Goroutine) : Prop :=
  ∀ os w sl t s r tm, (∀ o ∈ os, Lv P o) → Fits hA w → Fits hB w → Apart hA hB c → w.heap[c]? = some (.chan 0 #[] false s r tm) → Two t (os.length + 1) hA hB → Same W w → Ends P Post (lm (a :: (os ++ [b])) w sl) t
variable (P c Post W) in
def ConfS (hA : LH) (a : Goroutine) : Prop :=
  ∀ hB os w sl t s r tm, (∀ o ∈ os, Lv P o) → Fits hA w → Fits hB w → Apart hA hB c → w.heap[c]? = some (.chan 0 #[] true s r tm) → Shut t os.length c hB → Same W w → Ends P Post (lm (a :: os) w sl) t
variable (P c Post W) in
/-- The receiver's own turn goes well, whoever the sender is. -/
def TurnA (vs : List Value) (hA : LH) (a : Goroutine) : Prop :=
  ∀ hB b os w sl t s r tm w₀ sl₀, SendP P c vs hB b → (∀ o ∈ os, Lv P o) → Fits hA w → Fits hB w → Apart hA hB c → w.heap[c]? = some (.chan 0 #[] false s r tm) → Two t (os.length + 1) hA hB → Same W w →
    Via P Post (lm (a :: (os ++ [b])) w₀ sl₀) t (runT P (lm (a :: (os ++ [b])) w sl) 0)

variable (P c Post W) in
def Tm (vs : List Value) (hA : LH) (a : Goroutine) : Prop := (∀ hB b, SendP P c vs hB b → ConfO P c Post W hA a hB b) ∧ (vs = [] → ConfS P c Post W hA a)

theorem parked_awake {g : Goroutine} {k : Array CommCase} {sh : CommShape} : awake (parked g k sh) := by intro t ht; simp [parked] at ht
theorem run_awake {g : Goroutine} (h : g.status = .running) : awake g := by intro t ht; rw [h] at ht; cases ht

theorem nb_lv {os : List Goroutine} (h : ∀ o ∈ os, Lv P o) : ∀ g ∈ os, g.status ≠ .blocked := fun g hg => by rcases (h g hg).status with h | h <;> rw [h] <;> simp

/-- The invariant of the open phase. -/
def IO (W : World) (c n : Nat) (hA hB : LH) (w : World) (t : Trace) : Prop :=
  Fits hA w ∧ Fits hB w ∧ Apart hA hB c ∧ (∃ s r tm, w.heap[c]? = some (.chan 0 #[] false s r tm)) ∧ Two t (n + 1) hA hB ∧ Same W w

theorem IO.at {n : Nat} {hA hB : LH} {w : World} {t : Trace} {d : Nat} (x : IO W c n hA hB w t) : IO W c n hA hB (w.at d) t := ⟨x.1.at d, x.2.1.at d, x.2.2.1, x.2.2.2.1, x.2.2.2.2.1, x.2.2.2.2.2.at d⟩

/-- Open, the sender waits, the receiver runs. -/
theorem confO_bparked {vs : List Value} {hA hB : LH} {a g : Goroutine} {v z : Value} {vs' : List Value} (ha : a.status = .running) (ht : TurnA P c Post W vs hA a) (hv : vs = v :: vs') (hb : Sender P c vs' hB (Conc.served (core g) undef)) :
    ConfO P c Post W hA a hB (parked (core g) #[scase c v z] .send) := by
  intro os w sl t s r tm hlv h1 h2 h3 h4 h5 h6
  refine drive (P := P) (Post := Post) (a := a) (tl := [parked (core g) #[scase c v z] .send]) (n := os.length) (I := IO W c os.length hA hB) (fun w t d x => x.at) ?_ ⟨a, by simp, ha⟩ ?_ ?_ os w sl t hlv rfl ⟨h1, h2, h3, ⟨s, r, tm, h4⟩, h5, h6⟩
  · intro x hx
    simp at hx
    rcases hx with rfl | rfl
    · exact run_awake ha
    · exact parked_awake
  · rintro w t ⟨_, _, _, ⟨s, r, tm, hc⟩, _⟩ x hx
    simp at hx
    rcases hx with rfl | rfl
    · exact again_running _ (.inl ha)
    · exact again_parked_open rfl hc
  · rintro os' w sl t i x w₀ sl₀ hlv hn ⟨h1, h2, h3, ⟨s, r, tm, h4⟩, h5, h6⟩ hx hi hr
    rcases hi with rfl | hi
    · exact ht hB _ os' w sl t s r tm w₀ sl₀ (.inr ⟨v, vs', g, z, hv, rfl, hb⟩) hlv h1 h2 h3 h4 (hn ▸ h5) h6
    · obtain ⟨j, rfl⟩ : ∃ j, i = j + 1 := ⟨i - 1, by omega⟩
      have hlt := (List.getElem?_eq_some_iff.1 hx).1
      simp at hlt
      have e : j = os'.length := by omega
      subst e
      simp at hx
      subst hx
      simp [parked] at hr

theorem again_map {os : List Goroutine} {g g' : Goroutine} {w' : World} (h : ∀ o ∈ os, Lv P o) : os.map (woken P g g' w') = os := map_woken fun o ho => again_running _ (h o ho).status

theorem last_get {a b : Goroutine} {os : List Goroutine} {i : Nat} {x : Goroutine} (hx : (a :: (os ++ [b]))[i]? = some x) (hi : os.length < i) : i = os.length + 1 ∧ x = b := by
  obtain ⟨j, rfl⟩ : ∃ j, i = j + 1 := ⟨i - 1, by omega⟩
  have hlt := (List.getElem?_eq_some_iff.1 hx).1
  simp at hlt
  have e : j = os.length := by omega
  subst e
  simp at hx
  exact ⟨rfl, hx.symm⟩

/-- The sender's own step, seen by the machine. -/
theorem runT_b {a b b' : Goroutine} {os : List Goroutine} {w w' : World} {sl : Option (Nat × Nat)} {es : Array Event} (hlv : ∀ o ∈ os, Lv P o) (hs : stepG P false b w = .go b' w' es) :
    runT P (lm (a :: (os ++ [b])) w sl) (os.length + 1) = (.next (lm (woken P b b' w' a :: (os ++ [b'])) w' sl), MemOp.ofEvents (os.length + 1) b.frame.fn b.frame.place es) := by
  have hg : (a :: (os ++ [b]))[os.length + 1]? = some b := by simp
  rw [runT_own hg (show stepG P ((os.length + 1) == 0) b w = _ from hs)]
  have e : ((a :: (os ++ [b])).map (woken P b b' w')).set (os.length + 1) b' = woken P b b' w' a :: (os ++ [b']) := by
    rw [List.map_cons, List.map_append, again_map hlv]
    simp [List.set_append]
  rw [e]

theorem IO.stepA {n : Nat} {hA hB hA' : LH} {w w' : World} {t : Trace} {es : Array Event} {fn : FuncId} {pos : String} (x : IO W c n hA hB w t) (hx : Trans hA w hA' w' es) : IO W c n hA' hB w' (t ++ MemOp.ofEvents 0 fn pos es) := by
  obtain ⟨h1, h2, h3, ⟨s, r, tm, h4⟩, h5, h6⟩ := x
  obtain ⟨k1, k2, k3⟩ := h3.step h2 h1 h4 hx
  exact ⟨hx.fits, k2, k1, ⟨s, r, tm, k3⟩, h5.addA k1 hx.grows (mine_of hx.evs), h6.step hx⟩
theorem IO.stepB {n : Nat} {hA hB hB' : LH} {w w' : World} {t : Trace} {es : Array Event} {fn : FuncId} {pos : String} (x : IO W c n hA hB w t) (hx : Trans hB w hB' w' es) : IO W c n hA hB' w' (t ++ MemOp.ofEvents (n + 1) fn pos es) := by
  obtain ⟨h1, h2, h3, ⟨s, r, tm, h4⟩, h5, h6⟩ := x
  obtain ⟨k1, k2, k3⟩ := h3.symm.step h1 h2 h4 hx
  exact ⟨k2, hx.fits, k1.symm, ⟨s, r, tm, k3⟩, h5.addB k1.symm hx.grows (mine_of hx.evs), h6.step hx⟩

theorem fits_chan {h : LH} {w : World} {c : Nat} {o : Obj} (hf : Fits h w) (hn : h.get c = none) : Fits h { w with heap := w.heap.setIfInBounds c o } :=
  ⟨fun b x hb => by
    have hne : c ≠ b := fun e => by subst e; rw [hn] at hb; cases hb
    simp [hne, hf.get b x hb], hf.own⟩

/-- Open, the receiver runs. -/
theorem confO_of {vs : List Value} {hA : LH} {a : Goroutine} (ha : a.status = .running) (ht : TurnA P c Post W vs hA a) (hs : vs = [] → ConfS P c Post W hA a) : ∀ hB b, SendP P c vs hB b → ConfO P c Post W hA a hB b := by
  rintro hB b (hb | ⟨v, vs', g, z, hv, rfl, hb⟩)
  · have key : SendReg P c (fun vs' hB b => Sender P c vs' hB b ∧ (vs' = vs → ConfO P c Post W hA a hB b)) := by
      -- what is alike: the receiver's turn
      have base : ∀ hB b, b.status = .running → Sender P c vs hB b → (∀ os w sl t w₀ sl₀, (∀ o ∈ os, Lv P o) → IO W c os.length hA hB w t → Via P Post (lm (a :: (os ++ [b])) w₀ sl₀) t (runT P (lm (a :: (os ++ [b])) w sl) (os.length + 1))) → ConfO P c Post W hA a hB b := by
        intro hB b hbr hbs hbt os w sl t s r tm hlv h1 h2 h3 h4 h5 h6
        refine drive (P := P) (Post := Post) (a := a) (tl := [b]) (n := os.length) (I := IO W c os.length hA hB) (fun w t d x => x.at) ?_ ⟨a, by simp, ha⟩ ?_ ?_ os w sl t hlv rfl ⟨h1, h2, h3, ⟨s, r, tm, h4⟩, h5, h6⟩
        · intro x hx
          simp at hx
          rcases hx with rfl | rfl
          · exact run_awake ha
          · exact run_awake hbr
        · rintro w t _ x hx
          simp at hx
          rcases hx with rfl | rfl
          · exact again_running _ (.inl ha)
          · exact again_running _ (.inl hbr)
        · rintro os' w sl t i x w₀ sl₀ hlv hn hio hx hi hr
          rcases hi with rfl | hi
          · obtain ⟨h1, h2, h3, ⟨s, r, tm, h4⟩, h5, h6⟩ := hio
            exact ht hB _ os' w sl t s r tm w₀ sl₀ (.inl hbs) hlv h1 h2 h3 h4 (hn ▸ h5) h6
          · obtain ⟨rfl, rfl⟩ := last_get hx (by omega)
            exact hbt os' w sl t w₀ sl₀ hlv (hn ▸ hio)
      refine ⟨fun vs' => ⟨fun hB b hbr hst => ?_⟩, fun v vs' hB b z hbr hst hnx => ?_, fun hB b g₂ k hbr hmw hst hq => ?_⟩
      · have hbs : Sender P c vs' hB b := (sender_reg.own vs').step hB b hbr (hst.mono fun h g x => x.1)
        refine ⟨hbs, ?_⟩
        rintro rfl
        refine base hB b hbr hbs fun os w sl t w₀ sl₀ hlv hio => ?_
        obtain ⟨b', w', es, hB', k1, k2, k3, k4⟩ := hst w hio.2.1
        rw [runT_b hlv k1]
        have hw : woken P b b' w' a = a := woken_eq (again_running _ (.inl ha))
        rw [hw]
        obtain ⟨h1, h2, h3, ⟨s, r, tm, h4⟩, h5, h6⟩ := hio.stepB (fn := b.frame.fn) (pos := b.frame.place) k3
        exact k4.2 rfl os w' sl _ s r tm hlv h1 h2 h3 h4 h5 h6
      · have hbs : Sender P c (v :: vs') hB b := sender_reg.send v vs' hB b z hbr hst hnx.1
        refine ⟨hbs, ?_⟩
        rintro rfl
        refine base hB b hbr hbs fun os w sl t w₀ sl₀ hlv hio => ?_
        obtain ⟨h1, h2, h3, ⟨s, r, tm, h4⟩, h5, h6⟩ := hio
        have hg : (a :: (os ++ [b]))[os.length + 1]? = some b := by simp
        rw [runT_comm hg (show stepG P ((os.length + 1) == 0) b w = _ from hst w h2)]
        have e : (a :: (os ++ [b])).set (os.length + 1) idle = a :: (os ++ [idle]) := by simp [List.set_append]
        have hcw := com_send_waits (P := P) (w := w) (sl := sl) (v := v) (z := z) (b₂ := core b) (l := (a :: (os ++ [b])).set (os.length + 1) idle) (i := os.length + 1) (by
          intro x hx
          rw [e] at hx
          simp at hx
          rcases hx with rfl | hx | rfl
          · rw [ha]; simp
          · exact nb_lv hlv x hx
          · simp) h4
        simp only [rest0] at hcw
        rw [hcw]
        have e2 : ((a :: (os ++ [b])).set (os.length + 1) idle).set (os.length + 1) (parked (core b) #[scase c v z] .send) = a :: (os ++ [parked (core b) #[scase c v z] .send]) := by simp [List.set_append]
        rw [e2]
        have := confO_bparked (z := z) ha ht rfl hnx.1 os w sl t s r tm hlv h1 h2 h3 h4 h5 h6
        simpa [Via, MemOp.ofEvents] using this
      · have hbs : Sender P c [] hB b := sender_reg.close hB b g₂ k hbr hmw hst hq
        refine ⟨hbs, ?_⟩
        intro hv
        subst hv
        refine base hB b hbr hbs fun os w sl t w₀ sl₀ hlv hio => ?_
        obtain ⟨h1, h2, h3, ⟨s, r, tm, h4⟩, h5, h6⟩ := hio
        rw [runT_b hlv (hst w s r tm h4)]
        have hw : woken P b g₂ (w.shut c s r tm) a = a := woken_eq (again_running _ (.inl ha))
        rw [hw]
        have hlv' : ∀ o ∈ os ++ [g₂], Lv P o := fun o ho => by
          rcases List.mem_append.1 ho with ho | ho
          · exact hlv o ho
          · simp at ho; subst ho; exact ⟨k, hq⟩
        refine hs rfl hB (os ++ [g₂]) (w.shut c s r tm) sl _ s r tm hlv' (fits_chan h1 h3.ca) (fits_chan h2 h3.cb) h3 (heap_put h4) ?_ ⟨h6.os, h6.output, h6.tape, by simpa [World.shut] using h6.size⟩
        rw [show (os ++ [g₂]).length = os.length + 1 by simp]
        exact h5.close h3 (y := ⟨os.length + 1, b.frame.fn, b.frame.place, .access ⟨.obj c, false, true⟩⟩) (z := ⟨os.length + 1, b.frame.fn, b.frame.place, .close c⟩) ⟨rfl, rfl⟩ ⟨rfl, rfl⟩ (by simp [ofEvents_eq, MemAct.ofEvent])
    exact (hb _ key).2 rfl
  · exact confO_bparked ha ht hv hb

theorem mute4 {n : Nat} {f1 f2 f3 f4 : FuncId} {p1 p2 p3 p4 : String} {s r : Nat} (hn : 0 < n) : Mute (n + 1) #[⟨n, f1, p1, .send c s⟩, ⟨0, f2, p2, .recv c r 0⟩, ⟨n, f3, p3, .sendDone c s⟩, ⟨0, f4, p4, .recvDone c r⟩] := by
  refine ⟨fun op hop => ?_, fun op hop => ?_, fun op hop => ?_⟩ <;> simp at hop <;> rcases hop with rfl | rfl | rfl | rfl <;> simp [MemAct.touch?]

variable (P c Post W) in
/-- The receiver stands at its receive. -/
structure AtRecv (z : Value) (Fin : LH → Goroutine → Prop) (vs : List Value) (hA : LH) (a : Goroutine) : Prop where
  run : a.status = .running
  step : ∀ w, Fits hA w → stepG P true a w = .comm (core a) #[rcase c z] true (.recv true) w #[]
  more : ∀ v vs', vs = v :: vs' → Tm P c Post W vs' hA (Conc.served (core a) (.tuple #[v, .bool true]))
  none : vs = [] → Fin hA (Conc.served (core a) (.tuple #[z, .bool false]))

theorem AtRecv.retry {z : Value} {Fin : LH → Goroutine → Prop} {vs : List Value} {hA : LH} {a : Goroutine} (x : AtRecv P c Post W z Fin vs hA a) : AtRecv P c Post W z Fin vs hA { parked (core a) #[rcase c z] (.recv true) with status := .running } := by
  have e : ∀ w, stepG P true { parked (core a) #[rcase c z] (.recv true) with status := .running } w = stepG P true a w := fun w => stepG_same rfl rfl rfl w
  exact ⟨rfl, fun w hf => by rw [e]; exact x.step w hf, x.more, x.none⟩

variable {z : Value} {Fin : LH → Goroutine → Prop}

theorem AtRecv.confS {hA : LH} {a : Goroutine} (hFin : ∀ h g, Fin h g → MSafe P Post W h g) (x : AtRecv P c Post W z Fin [] hA a) : ConfS P c Post W hA a := by
  intro hB os w sl t s r tm hlv h1 h2 h3 h4 h5 h6
  have := drive (P := P) (Post := Post) (a := a) (tl := []) (n := os.length) (I := fun w t => Fits hA w ∧ w.heap[c]? = some (.chan 0 #[] true s r tm) ∧ Shut t os.length c hB ∧ Same W w) (fun w t d ⟨h1, h2, h3, h4⟩ => ⟨h1.at d, h2, h3, h4.at d⟩)
    (fun g hg => by simp at hg; subst hg; exact run_awake x.run) ⟨a, by simp, x.run⟩ (fun w t _ g hg => by simp at hg; subst hg; exact again_running _ (.inl x.run)) ?_ os w sl t hlv rfl ⟨h1, h4, h5, h6⟩
  · simpa using this
  · rintro os' w sl t i g w₀ sl₀ hlv hn ⟨h1, h4, h5, h6⟩ hg hi hgr
    simp only [List.append_nil] at hg ⊢
    rcases hi with rfl | hi
    · simp at hg
      subst hg
      rw [runT_comm (l := a :: os') (i := 0) (g := a) rfl (x.step w h1)]
      have hcw := com_recv_closed (P := P) (w := w) (sl := sl) (z := z) (a₂ := core a) (l := (a :: os').set 0 idle) (i := 0) (by
        intro y hy
        simp at hy
        rcases hy with rfl | hy
        · simp
        · exact nb_lv hlv y hy) h4
      simp only [rest0] at hcw
      rw [hcw]
      have hc := h5.heard (y := ⟨0, (core a).frame.fn, (core a).frame.place, .recvClosed c⟩) ⟨rfl, rfl⟩
      have := hFin _ _ (x.none rfl) os' w sl _ hlv h1 (hn ▸ hc) h6
      simpa [Via, MemOp.ofEvents] using this
    · have := (List.getElem?_eq_some_iff.1 hg).1
      simp at this
      omega

/-- The receiver waits. -/
theorem AtRecv.confP (hFin : ∀ h g, Fin h g → MSafe P Post W h g) {vs : List Value} {hA : LH} {a : Goroutine} (x : AtRecv P c Post W z Fin vs hA a) : ∀ hB b, Sender P c vs hB b → ConfO P c Post W hA (parked (core a) #[rcase c z] (.recv true)) hB b := by
  intro hB b hb
  have key : SendReg P c (fun vs' hB b => Sender P c vs' hB b ∧ (vs' = vs → ConfO P c Post W hA (parked (core a) #[rcase c z] (.recv true)) hB b)) := by
    have base : ∀ hB b, b.status = .running → (∀ os w sl t w₀ sl₀, (∀ o ∈ os, Lv P o) → IO W c os.length hA hB w t → Via P Post (lm (parked (core a) #[rcase c z] (.recv true) :: (os ++ [b])) w₀ sl₀) t (runT P (lm (parked (core a) #[rcase c z] (.recv true) :: (os ++ [b])) w sl) (os.length + 1))) →
        ConfO P c Post W hA (parked (core a) #[rcase c z] (.recv true)) hB b := by
      intro hB b hbr hbt os w sl t s r tm hlv h1 h2 h3 h4 h5 h6
      refine drive (P := P) (Post := Post) (a := parked (core a) #[rcase c z] (.recv true)) (tl := [b]) (n := os.length) (I := IO W c os.length hA hB) (fun w t d x => x.at) ?_ ⟨b, by simp, hbr⟩ ?_ ?_ os w sl t hlv rfl ⟨h1, h2, h3, ⟨s, r, tm, h4⟩, h5, h6⟩
      · intro x hx
        simp at hx
        rcases hx with rfl | rfl
        · exact parked_awake
        · exact run_awake hbr
      · rintro w t ⟨_, _, _, ⟨s, r, tm, hc⟩, _⟩ x hx
        simp at hx
        rcases hx with rfl | rfl
        · exact again_parked_open rfl hc
        · exact again_running _ (.inl hbr)
      · rintro os' w sl t i y w₀ sl₀ hlv hn hio hx hi hr
        rcases hi with rfl | hi
        · simp at hx; subst hx; simp [parked] at hr
        · obtain ⟨rfl, rfl⟩ := last_get hx (by omega)
          exact hbt os' w sl t w₀ sl₀ hlv (hn ▸ hio)
    refine ⟨fun vs' => ⟨fun hB b hbr hst => ?_⟩, fun v vs' hB b z' hbr hst hnx => ?_, fun hB b g₂ k hbr hmw hst hq => ?_⟩
    · have hbs : Sender P c vs' hB b := (sender_reg.own vs').step hB b hbr (hst.mono fun h g x => x.1)
      refine ⟨hbs, ?_⟩
      rintro rfl
      refine base hB b hbr fun os w sl t w₀ sl₀ hlv hio => ?_
      obtain ⟨b', w', es, hB', k1, k2, k3, k4⟩ := hst w hio.2.1
      rw [runT_b hlv k1]
      obtain ⟨h1, h2, h3, ⟨s, r, tm, h4⟩, h5, h6⟩ := hio.stepB (fn := b.frame.fn) (pos := b.frame.place) k3
      have hw : woken P b b' w' (parked (core a) #[rcase c z] (.recv true)) = parked (core a) #[rcase c z] (.recv true) := woken_eq (again_parked_open rfl h4)
      rw [hw]
      exact k4.2 rfl os w' sl _ s r tm hlv h1 h2 h3 h4 h5 h6
    · have hbs : Sender P c (v :: vs') hB b := sender_reg.send v vs' hB b z' hbr hst hnx.1
      refine ⟨hbs, ?_⟩
      rintro rfl
      refine base hB b hbr fun os w sl t w₀ sl₀ hlv hio => ?_
      obtain ⟨h1, h2, h3, ⟨s, r, tm, h4⟩, h5, h6⟩ := hio
      have hg : (parked (core a) #[rcase c z] (.recv true) :: (os ++ [b]))[os.length + 1]? = some b := by simp
      rw [runT_comm hg (show stepG P ((os.length + 1) == 0) b w = _ from hst w h2)]
      have e : (parked (core a) #[rcase c z] (.recv true) :: (os ++ [b])).set (os.length + 1) idle = parked (core a) #[rcase c z] (.recv true) :: (os ++ [idle]) := by simp [List.set_append]
      have hcw := com_send_meets (P := P) (w := w) (sl := sl) (v := v) (z := z) (z' := z') (a₂ := core a) (b₂ := core b) (os := os) (nb_lv hlv) h4
      simp only [rest0] at hcw
      simp only [e]
      rw [hcw]
      have := (x.more v vs' rfl).1 hB _ (.inl hnx.1) os (w.passed c s r tm) sl (t ++ #[⟨os.length + 1, (core b).frame.fn, (core b).frame.place, .send c s⟩, ⟨0, (core a).frame.fn, (core a).frame.place, .recv c r 0⟩, ⟨os.length + 1, (core b).frame.fn, (core b).frame.place, .sendDone c s⟩, ⟨0, (core a).frame.fn, (core a).frame.place, .recvDone c r⟩]) (s + 1) (r + 1) tm hlv (fits_chan h1 h3.ca) (fits_chan h2 h3.cb) h3 (heap_put h4) (h5.addC (mute4 (by omega)))
        ⟨h6.os, h6.output, h6.tape, by simpa [World.passed] using h6.size⟩
      simpa [Via, MemOp.ofEvents] using this
    · have hbs : Sender P c [] hB b := sender_reg.close hB b g₂ k hbr hmw hst hq
      refine ⟨hbs, ?_⟩
      intro hv
      subst hv
      refine base hB b hbr fun os w sl t w₀ sl₀ hlv hio => ?_
      obtain ⟨h1, h2, h3, ⟨s, r, tm, h4⟩, h5, h6⟩ := hio
      rw [runT_b hlv (hst w s r tm h4)]
      have hc2 : (w.shut c s r tm).heap[c]? = some (.chan 0 #[] true s r tm) := heap_put h4
      have hw : woken P b g₂ (w.shut c s r tm) (parked (core a) #[rcase c z] (.recv true)) = { parked (core a) #[rcase c z] (.recv true) with status := .running } := by
        unfold woken
        rcases hq.status with h | h <;> simp [hmw, h] <;> exact again_parked_shut rfl hc2
      rw [hw]
      have hlv' : ∀ o ∈ os ++ [g₂], Lv P o := fun o ho => by
        rcases List.mem_append.1 ho with ho | ho
        · exact hlv o ho
        · simp at ho; subst ho; exact ⟨k, hq⟩
      refine x.retry.confS hFin hB (os ++ [g₂]) (w.shut c s r tm) sl _ s r tm hlv' (fits_chan h1 h3.ca) (fits_chan h2 h3.cb) h3 hc2 ?_ ⟨h6.os, h6.output, h6.tape, by simpa [World.shut] using h6.size⟩
      rw [show (os ++ [g₂]).length = os.length + 1 by simp]
      exact h5.close h3 (y := ⟨os.length + 1, b.frame.fn, b.frame.place, .access ⟨.obj c, false, true⟩⟩) (z := ⟨os.length + 1, b.frame.fn, b.frame.place, .close c⟩) ⟨rfl, rfl⟩ ⟨rfl, rfl⟩ (by simp [ofEvents_eq, MemAct.ofEvent])
  exact (hb _ key).2 rfl

theorem AtRecv.turn (hFin : ∀ h g, Fin h g → MSafe P Post W h g) {vs : List Value} {hA : LH} {a : Goroutine} (x : AtRecv P c Post W z Fin vs hA a) : TurnA P c Post W vs hA a := by
  intro hB b os w sl t s r tm w₀ sl₀ hb hlv h1 h2 h3 h4 h5 h6
  rw [runT_comm (l := a :: (os ++ [b])) (i := 0) (g := a) rfl (x.step w h1)]
  rcases hb with hb | ⟨v, vs', g, z', hv, rfl, hb⟩
  · have hcw := com_recv_waits (P := P) (w := w) (sl := sl) (z := z) (a₂ := core a) (l := (a :: (os ++ [b])).set 0 idle) (i := 0) (by
      intro y hy
      simp at hy
      rcases hy with rfl | hy | rfl
      · simp
      · exact nb_lv hlv y hy
      · rw [hb.running]; simp) h4
    simp only [rest0] at hcw
    rw [hcw]
    have := x.confP hFin hB b hb os w sl t s r tm hlv h1 h2 h3 h4 h5 h6
    simpa [Via, MemOp.ofEvents] using this
  · have hcw := com_recv_meets (P := P) (w := w) (sl := sl) (v := v) (z := z) (z' := z') (a₂ := core a) (b₂ := core g) (os := os) (nb_lv hlv) h4
    simp only [rest0] at hcw
    simp only [List.set_cons_zero]
    rw [hcw]
    have := (x.more v vs' hv).1 hB _ (.inl hb) os (w.passed c s r tm) sl (t ++ #[⟨os.length + 1, (core g).frame.fn, (core g).frame.place, .send c s⟩, ⟨0, (core a).frame.fn, (core a).frame.place, .recv c r 0⟩, ⟨os.length + 1, (core g).frame.fn, (core g).frame.place, .sendDone c s⟩, ⟨0, (core a).frame.fn, (core a).frame.place, .recvDone c r⟩]) (s + 1) (r + 1) tm hlv (fits_chan h1 h3.ca) (fits_chan h2 h3.cb) h3 (heap_put h4) (h5.addC (mute4 (by omega)))
      ⟨h6.os, h6.output, h6.tape, by simpa [World.passed] using h6.size⟩
    simpa [Via, MemOp.ofEvents] using this

theorem AtRecv.tm (hFin : ∀ h g, Fin h g → MSafe P Post W h g) {vs : List Value} {hA : LH} {a : Goroutine} (x : AtRecv P c Post W z Fin vs hA a) : Tm P c Post W vs hA a :=
  ⟨confO_of x.run (x.turn hFin) (fun hv => by subst hv; exact x.confS hFin), fun hv => by subst hv; exact x.confS hFin⟩

theorem tm_own (vs : List Value) : Regime P true (Tm P c Post W vs) := by
  refine ⟨fun hA a ha hst => ?_⟩
  have hs : vs = [] → ConfS P c Post W hA a := by
    intro hv hB os w sl t s r tm hlv h1 h2 h3 h4 h5 h6
    have := drive (P := P) (Post := Post) (a := a) (tl := []) (n := os.length) (I := fun w t => Fits hA w ∧ Fits hB w ∧ w.heap[c]? = some (.chan 0 #[] true s r tm) ∧ Shut t os.length c hB ∧ Same W w) (fun w t d ⟨h1, h2, h3, h4, h5⟩ => ⟨h1.at d, h2.at d, h3, h4, h5.at d⟩)
      (fun g hg => by simp at hg; subst hg; exact run_awake ha) ⟨a, by simp, ha⟩ (fun w t _ g hg => by simp at hg; subst hg; exact again_running _ (.inl ha)) ?_ os w sl t hlv rfl ⟨h1, h2, h4, h5, h6⟩
    · simpa using this
    · rintro os' w sl t i g w₀ sl₀ hlv hn ⟨h1, h2, h4, h5, h6⟩ hg hi hgr
      simp only [List.append_nil] at hg ⊢
      rcases hi with rfl | hi
      · simp at hg
        subst hg
        obtain ⟨a', w', es, hA', k1, k2, k3, k4⟩ := hst w h1
        rw [runT_own (l := a :: os') (i := 0) (g := a) rfl k1]
        have e : ((a :: os').map (woken P a a' w')).set 0 a' = a' :: os' := by
          rw [List.map_cons, List.set_cons_zero, again_map hlv]
        rw [e]
        obtain ⟨j1, j2, j3⟩ := h3.step h2 h1 h4 k3
        exact k4.2 hv hB os' w' sl _ s r tm hlv k3.fits j2 j1 j3 (hn ▸ h5.addA j1 (mine_of k3.evs)) (h6.step k3)
      · have := (List.getElem?_eq_some_iff.1 hg).1
        simp at this
        omega
  refine ⟨confO_of ha ?_ hs, hs⟩
  intro hB b os w sl t s r tm w₀ sl₀ hb hlv h1 h2 h3 h4 h5 h6
  obtain ⟨a', w', es, hA', k1, k2, k3, k4⟩ := hst w h1
  rw [runT_own (l := a :: (os ++ [b])) (i := 0) (g := a) rfl k1]
  obtain ⟨j1, j2, j3, ⟨s', r', tm', j4⟩, j5, j6⟩ := IO.stepA (fn := a.frame.fn) (pos := a.frame.place) (show IO W c os.length hA hB w t from ⟨h1, h2, h3, ⟨s, r, tm, h4⟩, h5, h6⟩) k3
  have hwb : woken P a a' w' b = b := by
    unfold woken
    split
    · rcases hb with hb | ⟨v, vs', g, z', hv, rfl, hb⟩
      · exact again_running _ (.inl hb.running)
      · exact again_parked_open rfl j4
    · rfl
  have e : ((a :: (os ++ [b])).map (woken P a a' w')).set 0 a' = a' :: (os ++ [b]) := by
    rw [List.map_cons, List.set_cons_zero, List.map_append, again_map hlv, List.map_cons, List.map_nil, hwb]
  rw [e]
  exact k4.1 hB b hb os w' sl _ s' r' tm' hlv j1 j2 j3 j4 j5 j6

theorem tm_reg (hFin : ∀ h g, Fin h g → MSafe P Post W h g) : RecvReg P c z Fin (Tm P c Post W) where
  own := tm_own
  recv := fun v vs h g hr hs hn => AtRecv.tm hFin ⟨hr, hs, fun v' vs' e => by cases e; exact hn, fun e => by cases e⟩
  stop := fun h g hr hs hn => AtRecv.tm hFin ⟨hr, hs, fun v' vs' e => (by cases e), fun _ => hn⟩
end

/-- A goroutine takes back what it had lent. -/
def LH.back (h : LH) (R : Nat → Prop) : LH := { get := h.get, own := fun b => h.own b ∨ (R b ∧ h.get b ≠ none), gh := h.gh }
theorem fits_back {h : LH} {R : Nat → Prop} {w : World} (hf : Fits h w) : Fits (h.back R) w :=
  ⟨hf.get, fun b hb => hb.elim (hf.own b) fun ⟨_, h⟩ => Option.ne_none_iff_exists'.1 h⟩

/-- What a walk of the first goroutine may use: own steps; a go statement whose goroutine sends on a channel until it closes it. -/
structure Main (P : Program) (S : LH → Goroutine → Prop) : Prop where
  reg : Regime P true S
  wf : ∀ (h : LH) (a : Goroutine), ((∀ b, h.own b → h.get b ≠ none) → S h a) → S h a
  spawn : ∀ (h hA hB : LH) (a a' child : Goroutine) (c s r : Nat) (tm : Bool) (R : Nat → Prop) (z : Value) (vs : List Value), a.status = .running → (∀ w, Fits h w → stepG P true a w = .spawn a' child w #[]) → h.get c = some (.chan 0 #[] false s r tm) →
    (∀ b o, hA.get b = some o → h.get b = some o) → (∀ b o, hB.get b = some o → h.get b = some o) → (∀ b, hA.own b → ∃ o, hA.get b = some o) → (∀ b, hB.own b → ∃ o, hB.get b = some o) → Apart hA hB c →
    Receiver P c z (fun h g => S (h.back R) g) vs hA a' → Sender P c vs hB child → S h a

theorem msafe_main {P : Program} {Post : Value → World → Prop} {W : World} : Main P (MSafe P Post W) where
  reg := msafe_regime
  wf := fun h a x os w sl t h1 h2 h3 h4 => x (fun b hb => by obtain ⟨o, ho⟩ := h2.own b hb; rw [ho]; simp) os w sl t h1 h2 h3 h4
  spawn := by
    intro h hA hB a a' child c s r tm R z vs hr hst hc hga hgb hoa hob hap hA' hB'
    refine msafe_drive hr fun os w sl t w₀ sl₀ hlv hf hcalm hsame => ?_
    rw [runT_spawn (l := a :: os) (i := 0) (g := a) rfl (hst w hf)]
    have hfa : Fits hA w := ⟨fun b o hb => hf.get b o (hga b o hb), hoa⟩
    have hfb : Fits hB w := ⟨fun b o hb => hf.get b o (hgb b o hb), hob⟩
    have htm := hA' _ (tm_reg (P := P) (c := c) (z := z) (Post := Post) (W := W) (Fin := fun h g => MSafe P Post W (h.back R) g) fun h g x => fun os w sl t h1 h2 h3 h4 => x os w sl t h1 (fits_back h2) h3 h4)
    have htwo : Two ((t.push ⟨0, a.frame.fn, a.frame.place, .go (os.length + 1)⟩).push ⟨os.length + 1, child.frame.fn, a.frame.place, .start⟩) (os.length + 1) hA hB := hcalm.fork (by omega) ⟨rfl, rfl⟩ ⟨rfl, rfl⟩
    have := htm.1 hB child (.inl hB') os w sl _ s r tm hlv hfa hfb hap (hf.get _ _ hc) htwo hsame
    have e : ∀ x y : MemOp, (t.push x).push y = t ++ #[x, y] := fun x y => by apply Array.ext'; simp
    rw [e] at this
    simpa [Via, MemOp.ofEvents] using this
end Go.SL
/-
  The rules for go, send, receive and close over the families of senders and receivers, the values still to come kept beside the local heap.
-/
namespace Go.SL
open Go.Conc

def LH.wgh (h : LH) (vs : List Value) : LH := { h with gh := vs }
theorem fits_wgh {h : LH} {vs : List Value} {w : World} : Fits (h.wgh vs) w ↔ Fits h w := ⟨fun x => ⟨x.get, x.own⟩, fun x => ⟨x.get, x.own⟩⟩
theorem trans_wgh {h h' : LH} {w w' : World} {es : Array Event} {vs : List Value} (x : Trans h w h' w' es) : Trans (h.wgh vs) w (h'.wgh vs) w' es :=
  ⟨fits_wgh.2 x.fits, x.size, x.keep, x.ownNew, x.ownMono, x.dom, x.ro, x.os, x.output, x.tape, fun e he => x.evs e he, rfl⟩

section
variable {P : Program} {c : Nat}
/-- A family, told by the values that are kept beside. -/
def Fam (Sf : List Value → LH → Goroutine → Prop) : LH → Goroutine → Prop := fun h g => Sf h.gh (h.wgh []) g
theorem fam_reg {main : Bool} {Sf : List Value → LH → Goroutine → Prop} (hS : ∀ vs, Regime P main (Sf vs)) : Regime P main (Fam Sf) := ⟨fun h g hr hst => by
  refine (hS h.gh).step _ g hr fun w hf => ?_
  obtain ⟨g', w', es, h', h1, h2, h3, h4⟩ := hst w (fits_wgh.1 hf)
  refine ⟨g', w', es, h'.wgh [], h1, h2, trans_wgh h3, ?_⟩
  have := h3.gh
  simp only [Fam] at h4
  rw [this] at h4
  exact h4⟩
theorem fam_send {Sf : List Value → LH → Goroutine → Prop} (hS : SendReg P c Sf) {h : LH} {g : Goroutine} {v z : Value} {vs : List Value} (hg : h.gh = v :: vs) (hr : g.status = .running) (hs : ∀ w, Fits h w → stepG P false g w = .comm (core g) #[scase c v z] true .send w #[])
    (hk : Fam Sf (h.wgh vs) (Conc.served (core g) undef)) : Fam Sf h g := by
  simp only [Fam, hg]
  exact hS.send v vs _ g z hr (fun w hf => hs w (fits_wgh.1 hf)) hk
theorem fam_close {Sf : List Value → LH → Goroutine → Prop} (hS : SendReg P c Sf) {h : LH} {g g₂ : Goroutine} {k : Nat} (hg : h.gh = []) (hr : g.status = .running) (hw : mayWake P g = true) (hs : ∀ w s r tm, w.heap[c]? = some (.chan 0 #[] false s r tm) → stepG P false g w = .go g₂ (w.shut c s r tm) #[⟨.obj c, false, true⟩, ⟨.obj c, true, true⟩]) (hq : QuitsIn P k g₂) : Fam Sf h g := by
  simp only [Fam, hg]
  exact hS.close _ g g₂ k hr hw hs hq
theorem fam_recv {z : Value} {Fin : LH → Goroutine → Prop} {Tf : List Value → LH → Goroutine → Prop} (hS : RecvReg P c z Fin Tf) {h : LH} {g : Goroutine} {v : Value} {vs : List Value} (hg : h.gh = v :: vs) (hr : g.status = .running) (hs : ∀ w, Fits h w → stepG P true g w = .comm (core g) #[rcase c z] true (.recv true) w #[])
    (hk : Fam Tf (h.wgh vs) (Conc.served (core g) (.tuple #[v, .bool true]))) : Fam Tf h g := by
  simp only [Fam, hg]
  exact hS.recv v vs _ g hr (fun w hf => hs w (fits_wgh.1 hf)) hk
theorem fam_stop {z : Value} {Fin : LH → Goroutine → Prop} {Tf : List Value → LH → Goroutine → Prop} (hS : RecvReg P c z Fin Tf) {h : LH} {g : Goroutine} (hg : h.gh = []) (hr : g.status = .running) (hs : ∀ w, Fits h w → stepG P true g w = .comm (core g) #[rcase c z] true (.recv true) w #[])
    (hk : Fin (h.wgh []) (Conc.served (core g) (.tuple #[z, .bool false]))) : Fam Tf h g := by
  simp only [Fam, hg]
  exact hS.stop _ g hr (fun w hf => hs w (fits_wgh.1 hf)) hk
end

section
variable {P : Program} {main : Bool} {S : LH → Goroutine → Prop} {b : Base} {E : Env} {ds : List Deferred} {k : List Item} {cs : List Frame} {h : LH} {ops : Array Oper} {i : Nat} {rest : List Nat} {o : Oper}

theorem step_op (ho : ops[i]? = some o) (hw : Region.wanted o (yielded ops (Array.ofFn (n := b.n) fun i => E i)) = true) (hnd : ∀ c, o.op ≠ .defer c) (w : World) :
    stepG P main (G (b.fr E ds (.inRegion ops (i :: rest) :: k)) cs) w = stepG.apply P true (b.fr E ds (.inRegion ops (i :: rest) :: k)) cs none (execOp (ev b.n E) o) w := by
  have he := eval_fr b E ds (.inRegion ops (i :: rest) :: k)
  simp only [Base.fr] at he
  cases hr : b.round with
  | none =>
    rw [hr] at he
    simp [G, stepG, stepG.exec, stepG.oper, Frame.oper?, Base.fr, ho, hw, he, hr]
  | some l =>
    rw [hr] at he
    simp only [G, stepG, stepG.exec, stepG.oper, Frame.oper?, Base.fr, ho, hw, he, hr, Option.map_some, Option.getD_some, if_true]
    cases hop : o.op <;> first | rfl | exact absurd hop (hnd _)

theorem seen_none' (fn : FuncId) : seen P fn #[] = #[] := by unfold seen; rfl

theorem step_send {c : Nat} {v : Value} {ch x : Operand} {dst : Option Tmp} {ty : TypeId} {pos : String} {after : Array Edge} (ho : ops[i]? = some ⟨dst, .send ch x, ty, pos, after, none⟩) (hch : Ev b.n E ch (.chan (some c))) (hx : Ev b.n E x v) (w : World) :
    stepG P main (G (b.fr E ds (.inRegion ops (i :: rest) :: k)) cs) w = .comm (core (G (b.fr E ds (.inRegion ops (i :: rest) :: k)) cs)) #[scase c v (.tuple #[])] true .send w #[] := by
  rw [step_op ho rfl (by intro c e; cases e)]
  simp only [Ev] at hch hx
  have : execOp (ev b.n E) ⟨dst, .send ch x, ty, pos, after, none⟩ = pure (.comm #[scase c v (.tuple #[])] true .send) := by simp only [execOp, hch, hx]; rfl
  rw [this]
  simp [stepG.apply, pure, Sem.runT, seen_none', GStep.after, core, G]

theorem runT_underlying {α : Type} {t : TypeId} {d : TypeDesc} (hu : P.underlying t = some d) (f : TypeDesc → Sem α) (w : World) (es : Array Event) : (underlying t >>= f).runT P w es = (f d).runT P w es := by
  simp only [underlying, program, bind, Sem.bind, pure, Sem.runT, hu]
theorem runT_zeroValue {α : Type} {t : TypeId} {z : Value} (hz : zrB P t = some z) (f : Value → Sem α) (w : World) (es : Array Event) : (zeroValue t >>= f).runT P w es = (f z).runT P w es := by
  unfold zrB at hz
  cases hi : P.info? t with
  | none => simp [hi] at hz
  | some inf =>
    simp only [hi, Option.bind_some] at hz
    simp only [zeroValue, typeInfo, program, bind, Sem.bind, pure, Sem.runT, hi, hz]
theorem step_recv {c : Nat} {z : Value} {t el : TypeId} {dir : ChanDir} {ch : Operand} {dst : Option Tmp} {ty : TypeId} {pos : String} {after : Array Edge} (ho : ops[i]? = some ⟨dst, .recv t ch true, ty, pos, after, none⟩) (hch : Ev b.n E ch (.chan (some c))) (hu : P.underlying t = some (.chan dir el)) (hz : zrB P el = some z) (w : World) :
    stepG P main (G (b.fr E ds (.inRegion ops (i :: rest) :: k)) cs) w = .comm (core (G (b.fr E ds (.inRegion ops (i :: rest) :: k)) cs)) #[rcase c z] true (.recv true) w #[] := by
  rw [step_op ho rfl (by intro c e; cases e)]
  simp only [Ev] at hch
  have : ∀ es, (execOp (ev b.n E) ⟨dst, .recv t ch true, ty, pos, after, none⟩).runT P w es = (.ok (.comm #[rcase c z] true (.recv true)) w, es) := by
    intro es
    simp only [execOp, hch]
    rw [runT_underlying hu]
    dsimp only
    rw [runT_zeroValue hz]
    rfl
  simp [-Sem.runT_eq, stepG.apply, this, seen_none', GStep.after, core, G]

/-- The goroutine that a go statement starts. -/
def childFr (P : Program) (ds : List Deferred) : Frame := { (default : Frame) with fn := P.funcs.size, defers := ds, mode := .panicking [goexitEntry] }

theorem step_go {f : FuncId} {cap args : List Value} {x : Operand} {xs : List Operand} {tys : Array TypeId} {dst : Option Tmp} {ty : TypeId} {pos : String} {after : Array Edge} (ho : ops[i]? = some ⟨dst, .go { callee := .value x, args := xs.toArray, argTypes := tys }, ty, pos, after, none⟩) (hx : Ev b.n E x (.func (.func f) #[] cap.toArray)) (ha : EvL b.n E xs args) (w : World) :
    stepG P main (G (b.fr E ds (.inRegion ops (i :: rest) :: k)) cs) w = .spawn (G (b.fr (putE E dst undef) ds (.inRegion ops rest :: k)) cs) (G (childFr P [{ target := .fn (.func f) cap.toArray, args := args.toArray }]) []) w #[] := by
  rw [step_op ho rfl (by intro c e; cases e)]
  simp only [Ev] at hx
  simp only [EvL] at ha
  have he : execOp (ev b.n E) ⟨dst, .go { callee := .value x, args := xs.toArray, argTypes := tys }, ty, pos, after, none⟩ = pure (.spawn { target := .fn (.func f) cap.toArray, args := args.toArray }) := by
    simp only [execOp, resolve, hx, Deferred.ofValue, List.map_toArray, ha]
    simp [pure, bind, Sem.bind]
  have hfin := finish_fr b E ds ops i rest k undef
  rw [ho] at hfin
  simp only [Option.bind_some] at hfin
  rw [he, ← hfin]
  simp [stepG.apply, pure, Sem.runT, seen_none', GStep.after, G, childFr]

/-- The goroutine enters its function. -/
theorem child_enter (hS : Regime P main S) {f : FuncId} {cap args : List Value} (hgo : isGo P f = true) (hk : S h (G (Frame.enter P f (args ++ cap).toArray .deferred) [childFr P []])) :
    S h (G (childFr P [{ target := .fn (.func f) cap.toArray, args := args.toArray }]) []) := by
  refine hS.silent rfl rfl (fun w => ?_) hk
  unfold isGo at hgo
  cases hfn : P.funcs[f]? with
  | none => simp [hfn] at hgo
  | some fn =>
    simp only [hfn, Bool.and_eq_true, Bool.not_eq_true'] at hgo
    have hb : fn.body.isNone = false := by cases hbd : fn.body <;> simp_all
    have hr : ∀ es, (invoke (.fn (.func f) cap.toArray) args.toArray).runT P w es = (.ok (.enter f (args ++ cap).toArray) w, es) := by
      intro es
      simp only [invoke, callFunc, program, bind, Sem.bind, pure, Sem.runT, hfn]
      simp [hgo.1, hb, pure, Sem.runT]
    simp [-Sem.runT_eq, G, stepG, unwind, childFr, callDeferred, hr, seen_none', GStep.after]

/-- Behind the close: nothing is said any more. -/
theorem quits_after {fn : Func} (hf : P.funcs[b.fn]? = some fn) (hr : fn.results = #[]) (hkd : b.kind = .deferred) : QuitsIn P 2 (G (b.rf E [] k) [childFr P []]) := by
  refine .inr ⟨rfl, G (childFr P []) [], fun w => ?_, .inr ⟨rfl, { frame := childFr P [], callers := [], status := .finished, dying := none }, fun w => ?_, rfl⟩⟩
  · have hres : ∀ es, (results fn (Array.ofFn (n := b.n) fun i => E i)).runT P w es = (.ok (.tuple #[]) w, es) := by
      intro es; simp [results, hr]
    simp [-Sem.runT_eq, G, stepG, unwind, Base.rf, Base.fr, hf, hres, seen_none', GStep.after, doReturn, hkd, childFr, goexitEntry]
  · have hc : ∀ fr : Frame, fr.fn = P.funcs.size → fr.todo = [] → Frame.catches P fr = false := by
      intro fr h1 h2; simp [Frame.catches, h1, h2]
    have hc' := hc (childFr P []) rfl rfl
    simp only [childFr, goexitEntry] at hc'
    simp [-Sem.runT_eq, G, stepG, unwind, childFr, goexitEntry]
    exact hc _ rfl rfl

/-- The deferred close of a channel. -/
theorem step_close {c : Nat} {tys : Array TypeId} {ty : TypeId} {cst : Array Bool} (w : World) (s r : Nat) (tm : Bool) (hc : w.heap[c]? = some (.chan 0 #[] false s r tm)) :
    stepG P false (G (b.rf E [{ target := .builtin .close tys ty cst, args := #[.chan (some c)] }] k) cs) w = .go (G (b.rf E [] k) cs) (w.shut c s r tm) #[⟨.obj c, false, true⟩, ⟨.obj c, true, true⟩] := by
  have hr : (invoke (.builtin .close tys ty cst) #[.chan (some c)]).runT P w #[] = (.ok (.value (.tuple #[])) (w.shut c s r tm), #[⟨.obj c, false, true⟩, ⟨.obj c, true, true⟩]) := by
    obtain ⟨f, e1, e2⟩ : ∃ f, Builtin.close_ tys ty #[.chan (some c)] = (getObj c >>= f) ∧ ∀ s r tm, f (.chan 0 #[] false s r tm) = (setObj c (.chan 0 #[] true s r tm) >>= fun _ => pure (.tuple #[])) := ⟨_, rfl, fun s r tm => rfl⟩
    have e3 : invoke (.builtin .close tys ty cst) #[.chan (some c)] = (do pure (.value (← Builtin.close_ tys ty #[.chan (some c)]))) := rfl
    rw [e3, e1]
    simp only [getObj, bind, Sem.bind, Sem.runT, hc, Obj.isChan, e2, setObj, pure]
    simp [World.shut]
  have hs : seen P b.fn #[⟨.obj c, false, true⟩, ⟨.obj c, true, true⟩] = #[⟨.obj c, false, true⟩, ⟨.obj c, true, true⟩] := by
    unfold seen
    simp
  simp [-Sem.runT_eq, G, stepG, unwind, Base.rf, Base.fr, callDeferred, hr, hs, GStep.after]
theorem wake_close {d : Deferred} : mayWake P (G (b.rf E [d] k) cs) = true := rfl

/-- The first operations of a region in the text's order. -/
theorem WL.pre (hS : Regime P main S) (rest : List Nat) : ∀ (os : List Oper) (idxs : List Nat) (E : Env) (ds : List Deferred) (h : LH), idxs.map (fun i => ops[i]?) = os.map some →
    WL P S b cs ops (fun E ds h => S h (G (b.fr E ds (.inRegion ops rest :: k)) cs)) os E ds h → S h (G (b.fr E ds (.inRegion ops (idxs ++ rest) :: k)) cs) := by
  intro os
  induction os with
  | nil =>
    intro idxs E ds h hm x
    obtain rfl : idxs = [] := by simpa using hm
    exact x
  | cons o os ih =>
    intro idxs E ds h hm x
    cases idxs with
    | nil => simp at hm
    | cons i idxs =>
      simp only [List.map_cons, List.cons.injEq] at hm
      exact OpS.sound hS hm.1 (fun E ds h => ih idxs E ds h hm.2) x
/-- .. all but the last one. -/
theorem Regime.regionButLast (hS : Regime P main S) {id : Nat} {l : List Oper} {o : Oper} (x : WL P S b cs (l ++ [o]).toArray (fun E ds h => S h (G (b.fr E ds (.inRegion (l ++ [o]).toArray [l.length] :: k)) cs)) l E ds h) :
    S h (G (b.fr E ds (.code (.region id (l ++ [o]).toArray false) :: k)) cs) := by
  refine hS.region ?_
  have e : List.range (l ++ [o]).toArray.size = List.range l.length ++ [l.length] := by simp [List.range_succ]
  rw [e]
  refine WL.pre hS [l.length] l _ E ds h ?_ x
  apply List.ext_getElem
  · simp
  · intro i h1 h2
    simp only [List.length_map, List.length_range] at h1 h2
    simp [List.getElem?_append_left h2, h2]

theorem Regime.region3 (hS : Regime P main S) {id : Nat} {o₁ o₂ o₃ : Oper} (x : WL P S b cs (List.toArray [o₁, o₂, o₃]) (fun E ds h => S h (G (b.fr E ds (.inRegion (List.toArray [o₁, o₂, o₃]) [2] :: k)) cs)) [o₁, o₂] E ds h) :
    S h (G (b.fr E ds (.code (.region id (List.toArray [o₁, o₂, o₃]) false) :: k)) cs) := hS.regionButLast (l := [o₁, o₂]) (o := o₃) x
theorem R.send {c : Nat} {Sf : List Value → LH → Goroutine → Prop} (hR : SendReg P c Sf) {v : Value} {vs : List Value} {ch x : Operand} {dst : Option Tmp} {ty : TypeId} {pos : String} {after : Array Edge} (ho : ops[i]? = some ⟨dst, .send ch x, ty, pos, after, none⟩) [hch : EvC b.n E ch (.chan (some c))] [hx : EvC b.n E x v] (hg : h.gh = v :: vs)
    (hk : Fam Sf (h.wgh vs) (G (b.fr (putE E dst undef) ds (.inRegion ops rest :: k)) cs)) : Fam Sf h (G (b.fr E ds (.inRegion ops (i :: rest) :: k)) cs) := by
  refine fam_send hR hg rfl (fun w _ => step_send ho hch.out hx.out w) ?_
  have hfin := finish_fr b E ds ops i rest k undef
  rw [ho] at hfin
  simp only [Option.bind_some] at hfin
  rw [← hfin] at hk
  exact hk
theorem R.recv {c : Nat} {z : Value} {Fin : LH → Goroutine → Prop} {Tf : List Value → LH → Goroutine → Prop} (hR : RecvReg P c z Fin Tf) {v : Value} {vs : List Value} {t el : TypeId} {dir : ChanDir} {ch : Operand} {dst : Option Tmp} {ty : TypeId} {pos : String} {after : Array Edge} (ho : ops[i]? = some ⟨dst, .recv t ch true, ty, pos, after, none⟩) [hch : EvC b.n E ch (.chan (some c))] (hu : P.underlying t = some (.chan dir el)) (hz : zrB P el = some z) (hg : h.gh = v :: vs)
    (hk : Fam Tf (h.wgh vs) (G (b.fr (putE E dst (.tuple (List.toArray [v, .bool true]))) ds (.inRegion ops rest :: k)) cs)) : Fam Tf h (G (b.fr E ds (.inRegion ops (i :: rest) :: k)) cs) := by
  refine fam_recv hR hg rfl (fun w _ => step_recv ho hch.out hu hz w) ?_
  have hfin := finish_fr b E ds ops i rest k (.tuple (List.toArray [v, .bool true]))
  rw [ho] at hfin
  simp only [Option.bind_some] at hfin
  rw [← hfin] at hk
  exact hk
theorem R.recvStop {c : Nat} {z : Value} {Fin : LH → Goroutine → Prop} {Tf : List Value → LH → Goroutine → Prop} (hR : RecvReg P c z Fin Tf) {t el : TypeId} {dir : ChanDir} {ch : Operand} {dst : Option Tmp} {ty : TypeId} {pos : String} {after : Array Edge} (ho : ops[i]? = some ⟨dst, .recv t ch true, ty, pos, after, none⟩) [hch : EvC b.n E ch (.chan (some c))] (hu : P.underlying t = some (.chan dir el)) (hz : zrB P el = some z) (hg : h.gh = [])
    (hk : Fin (h.wgh []) (G (b.fr (putE E dst (.tuple (List.toArray [z, .bool false]))) ds (.inRegion ops rest :: k)) cs)) : Fam Tf h (G (b.fr E ds (.inRegion ops (i :: rest) :: k)) cs) := by
  refine fam_stop hR hg rfl (fun w _ => step_recv ho hch.out hu hz w) ?_
  have hfin := finish_fr b E ds ops i rest k (.tuple (List.toArray [z, .bool false]))
  rw [ho] at hfin
  simp only [Option.bind_some] at hfin
  rw [← hfin] at hk
  exact hk
/-- The frame returns: the channel is closed, and the goroutine leaves. -/
theorem R.closeLeave {c : Nat} {Sf : List Value → LH → Goroutine → Prop} (hR : SendReg P c Sf) {tys : Array TypeId} {ty : TypeId} {cst : Array Bool} {fn : Func} (hg : h.gh = []) (hf : P.funcs[b.fn]? = some fn) (hr : fn.results = #[]) (hkd : b.kind = .deferred) :
    Fam Sf h (G (b.rf E [{ target := .builtin .close tys ty cst, args := (List.toArray [.chan (some c)]) }] k) [childFr P []]) :=
  fam_close hR hg rfl wake_close (fun w s r tm hc => step_close w s r tm hc) (quits_after hf hr hkd)

theorem hg_wgh {h : LH} {vs : List Value} {b : Nat} {o : Obj} (x : HG h b o) : HG (h.wgh vs) b o := x
theorem own_wgh {h : LH} {vs : List Value} {b : Nat} (x : Own h b) : Own (h.wgh vs) b := x
theorem slw_wgh {h : LH} {vs : List Value} {sz : Nat} {v : Value} {xs : List (List Value)} (x : SlW h sz v xs) : SlW (h.wgh vs) sz v xs := x
theorem sle_wgh {h : LH} {vs : List Value} {sz : Nat} {v : Value} {xs : List (List Value)} (x : SlE h sz v xs) : SlE (h.wgh vs) sz v xs := x
theorem marks_wgh {h0 h : LH} {vs : List Value} {rest ds : List Deferred} (x : Marks h0 h rest ds) : Marks h0 (h.wgh vs) rest ds := x
theorem ext_wgh {h h' : LH} {vs ws : List Value} (x : Ext (h.wgh vs) h') : Ext (h.wgh ws) (h'.wgh ws) := ⟨x.get, x.own, rfl⟩
theorem wgh_self {h : LH} {vs : List Value} (e : h.gh = vs) : h.wgh vs = h := by subst e; rfl
theorem wgh_wgh {h : LH} {vs ws : List Value} : (h.wgh vs).wgh ws = h.wgh ws := rfl

/-- A deferred call of a builtin. -/
theorem W.deferB {l os : List Oper} {Fin : Env → List Deferred → LH → Prop} {dst : Option Tmp} {ty : TypeId} {pos : String} {after : Array Edge} {bn : Builtin} {xs : List Operand} {args : List Value} {tys : Array TypeId} (hb : b.round = none) [ha : EvLC b.n E xs args]
    (hk : ∀ cst, WL P S b cs l.toArray Fin os (putE E dst undef) ({ target := .builtin bn tys ty cst, args := args.toArray } :: ds) h) :
    WL P S b cs l.toArray Fin (⟨dst, .defer { callee := .builtin bn, args := xs.toArray, argTypes := tys }, ty, pos, after, none⟩ :: os) E ds h := by
  refine ⟨.inl hb, ?_⟩
  rw [if_pos (by rfl)]
  have ha' := ha.out
  simp only [EvL] at ha'
  simp only [execOp, resolve, List.map_toArray, ha']
  refine wps_bind' (wps_pure ?_)
  exact wps_pure (hk _)
theorem W.makeChan {l os : List Oper} {Fin : Env → List Deferred → LH → Prop} {dst : Option Tmp} {t el ty : TypeId} {dir : ChanDir} {pos : String} {after : Array Edge} {x : Operand} {kk : IntKind} [hx : EvC b.n E x (.int kk 0)] (hu : P.underlying t = some (.chan dir el)) (hi : (P.info? el).isSome = true)
    (hk : ∀ p, FreshAt h p → WL P S b cs l.toArray Fin os (putE E dst (.chan (some p))) ds (h.upd p (.chan 0 #[] false 0 0 false))) :
    WL P S b cs l.toArray Fin (⟨dst, .makeChan t x, ty, pos, after, none⟩ :: os) E ds h := by
  refine OpS.of rfl ?_
  have hx' := hx.out
  simp only [Ev] at hx'
  obtain ⟨inf, hinf⟩ := Option.isSome_iff_exists.1 hi
  simp only [execOp, hx']
  refine wps_bind' ?_
  unfold Instr.makeChan
  refine wps_bind' (s := asInt _) (wps_pure ?_)
  refine wps_bind' (wps_underlying hu ?_)
  dsimp only
  refine wps_bind' (wps_typeInfo hinf ?_)
  have hno : ¬ ((0 : Int) < 0 ∨ (0 : Int) > IntKind.i64.max ∨ (inf.bytes : Int) * 0 > 2 ^ 48 - 112) := by
    simp [IntKind.max, IntKind.signed, IntKind.bits]
  dsimp only
  rw [if_neg hno]
  refine wps_bind' (s := newObj _) (fun p hp => ?_)
  exact wps_pure (wps_pure (hk p ⟨hp⟩))
end

/-- What a goroutine reads of another one's memory while a second one does so too. -/
def LH.ro (h : LH) (c : Nat) (vs : List Value) : LH := { get := fun b => if b = c then none else h.get b, own := fun _ => False, gh := vs }
theorem hg_ro {h : LH} {c b : Nat} {vs : List Value} {o : Obj} (x : HG h b o) (hn : b ≠ c) : HG (h.ro c vs) b o := by
  simp only [HG] at x ⊢
  simp [LH.ro, hn, x]
theorem ro_get {h : LH} {c b : Nat} {vs : List Value} {o : Obj} (x : (h.ro c vs).get b = some o) : h.get b = some o := by
  simp only [LH.ro] at x
  split at x
  · cases x
  · exact x

section
variable {P : Program} {S : LH → Goroutine → Prop} {b : Base} {E : Env} {ds : List Deferred} {k : List Item} {cs : List Frame} {h : LH} {ops : Array Oper} {i : Nat} {rest : List Nat}
theorem R.go (hM : Main P S) {f : FuncId} {cap args : List Value} {x : Operand} {xs : List Operand} {tys : Array TypeId} {dst : Option Tmp} {ty : TypeId} {pos : String} {after : Array Edge} {c s r : Nat} {tm : Bool} {z : Value} {vs : List Value} (ho : ops[i]? = some ⟨dst, .go { callee := .value x, args := xs.toArray, argTypes := tys }, ty, pos, after, none⟩)
    [hx : EvC b.n E x (.func (.func f) #[] cap.toArray)] [ha : EvLC b.n E xs args] [hgo : GoC P f] (hc : HG h c (.chan 0 #[] false s r tm))
    (hrecv : ∀ Tf, RecvReg P c z (fun h' g => S (h'.back h.own) g) Tf → Fam Tf (h.ro c vs) (G (b.fr (putE E dst undef) ds (.inRegion ops rest :: k)) cs))
    (hsend : ∀ Sf, SendReg P c Sf → Fam Sf (h.ro c vs) (G (Frame.enter P f (args ++ cap).toArray .deferred) [childFr P []])) : S h (G (b.fr E ds (.inRegion ops (i :: rest) :: k)) cs) := by
  refine hM.spawn h (h.ro c []) (h.ro c []) _ _ _ c s r tm h.own z vs rfl (fun w _ => step_go ho hx.out ha.out w) hc (fun b o => ro_get) (fun b o => ro_get) (fun b hb => hb.elim) (fun b hb => hb.elim) ⟨fun b hb => hb.elim, fun b hb => hb.elim, by simp [LH.ro], by simp [LH.ro]⟩ ?_ ?_
  · exact fun Tf hT => hrecv Tf hT
  · intro Sf hSf
    have := child_enter (h := h.ro c vs) (fam_reg hSf.own) (f := f) (cap := cap) (args := args) hgo.out (hsend Sf hSf)
    exact this
theorem Regime.regionRest2 {main : Bool} (hS : Regime P main S) {o₁ o₂ : Oper} (x : WL P S b cs (List.toArray [o₁, o₂]) (fun E ds h => S h (G (b.fr E ds k) cs)) [o₂] E ds h) : S h (G (b.fr E ds (.inRegion (List.toArray [o₁, o₂]) [1] :: k)) cs) :=
  WL.sound hS [o₂] [1] E ds h rfl x
theorem Regime.region2 {main : Bool} (hS : Regime P main S) {id : Nat} {o₁ o₂ : Oper} (x : S h (G (b.fr E ds (.inRegion (List.toArray [o₁, o₂]) [0, 1] :: k)) cs)) : S h (G (b.fr E ds (.code (.region id (List.toArray [o₁, o₂]) false) :: k)) cs) := hS.region x
end
/-- A function's contract for the goroutine that may start others. -/
def ConM (P : Program) (f : FuncId) (args : List Value) (h : LH) (R : Value → LH → Prop) : Prop :=
  ∀ (S : LH → Goroutine → Prop), Main P S → ∀ (c : Frame) (cs : List Frame), (∀ v h', R v h' → S h' (G (c.finish v) cs)) → S h (G (Frame.enter P f args.toArray .normal) (c :: cs))
theorem ConM.intro {P : Program} {f : FuncId} {fn : Func} {body : Code} {n m : Nat} {h : LH} {args : List Value} {R : Value → LH → Prop} (hf : P.funcs[f]? = some fn) (hb : fn.body = some body) (hn : fn.ntmps = n) (hl : args.length = m) (ha : m ≤ n)
    (x : ∀ (S : LH → Goroutine → Prop), Main P S → ∀ (c : Frame) (cs : List Frame), (∀ v h', R v h' → S h' (G (c.finish v) cs)) → S h (G ((⟨f, n, .normal, none⟩ : Base).fr (ofL args) [] [.code body]) (c :: cs))) : ConM P f args h R := by
  intro S hS c cs hc
  rw [enter_eq hf hb (by omega), hn]
  exact x S hS c cs hc
theorem W.callM {P : Program} {S : LH → Goroutine → Prop} {b : Base} {E : Env} {ds : List Deferred} {cs : List Frame} {h : LH} {dst : Option Tmp} {ty : TypeId} {pos : String} {after : Array Edge} {l os : List Oper} {Fin : Env → List Deferred → LH → Prop} {f : FuncId} {x : Operand} {cap args full : List Value} {xs : List Operand} {tys : Array TypeId} {R : Value → LH → Prop} (hM : Main P S) [hf : EvC b.n E x (.func (.func f) #[] cap.toArray)] [hgo : GoC P f] [ha : EvLC b.n E xs args] [hap : AppC args cap full]
    (hc : ConM P f full h R) (hk : ∀ v h', R v h' → WL P S b cs l.toArray Fin os (putE E dst v) ds h') :
    WL P S b cs l.toArray Fin (⟨dst, .call { callee := .value x, args := xs.toArray, argTypes := tys }, ty, pos, after, none⟩ :: os) E ds h :=
  OpS.call hf.out hgo.out ha.out (fun c hv => by rw [hap.out]; exact hc S hM c cs hv) hk
end Go.SL
namespace Go.SL
open Go.Conc (G)
/-- What is known of the heap of a world when a call begins: all of it. -/
def LH.all (W : World) : LH := { get := fun b => W.heap[b]?, own := fun b => W.heap[b]? ≠ none, gh := [] }
theorem fits_all {W : World} : Fits (LH.all W) W := ⟨fun _ _ h => h, fun b hb => Option.ne_none_iff_exists'.1 hb⟩
/-- A walk of function f, whoever calls: what it returns is R. -/
def ConB (P : Program) (f : FuncId) (args : List Value) (h : LH) (R : Value → LH → Prop) : Prop :=
  ∀ (S : LH → Goroutine → Prop), Main P S → ∀ (cs : List Frame), (∀ (n : Nat) (rs : List ResultVar) (vs : List Value) (E : Env) (h' : LH) (k : List Item), FunC P f rs → ResC P n E h' rs vs → R (resOf vs) h' → S h' (G ((⟨f, n, .normal, none⟩ : Base).fr E [] (.code .ret :: k)) cs)) → S h (G (Frame.enter P f args.toArray .normal) cs)
theorem ConB.intro {P : Program} {f : FuncId} {fn : Func} {body : Code} {n m : Nat} {h : LH} {args : List Value} {R : Value → LH → Prop} (hf : P.funcs[f]? = some fn) (hb : fn.body = some body) (hn : fn.ntmps = n) (hl : args.length = m) (ha : m ≤ n)
    (x : ∀ (S : LH → Goroutine → Prop), Main P S → ∀ (cs : List Frame), (∀ (rs : List ResultVar) (vs : List Value) (E : Env) (h' : LH) (k : List Item), FunC P f rs → ResC P n E h' rs vs → R (resOf vs) h' → S h' (G ((⟨f, n, .normal, none⟩ : Base).fr E [] (.code .ret :: k)) cs)) → S h (G ((⟨f, n, .normal, none⟩ : Base).fr (ofL args) [] [.code body]) cs)) : ConB P f args h R := by
  intro S hS cs hc
  rw [enter_eq hf hb (by omega), hn]
  exact x S hS cs (hc n)
theorem msafe_back {P : Program} {Post : Value → World → Prop} {W : World} {h : LH} {f : FuncId} {n : Nat} {E : Env} {k : List Item} {fn : Func} {rs : List ResultVar} {vs : List Value} (hi : P.inits.idxOf? f = none) (hf : P.funcs[f]? = some fn) (hr : fn.results = rs.toArray) (p : ResV P n E h rs vs)
    (hp : ∀ w, Fits h w → Same W w → Post (resOf vs) w) : MSafe P Post W h (G ((⟨f, n, .normal, none⟩ : Base).rf E [] k) []) := by
  refine msafe_ret rfl fun w hfit hs => ?_
  have hwp : wps P (results fn (Array.ofFn (n := n) fun i => E i)) h (fun o h' => o = .ok (resOf vs) ∧ h' = h) := wps_results hr p ⟨rfl, rfl⟩
  obtain ⟨out, w', h', new, r1, ⟨rfl, rfl⟩, r3⟩ := wps_run (P := P) _ h w #[] hfit hwp
  rw [Array.empty_append] at r1
  refine ⟨resOf vs, seen P f new, w', h', ?_, { r3 with evs := fun e hx => r3.evs e (seen_mem hx) }, hp w' r3.fits (hs.step r3)⟩
  simp [-Sem.runT_eq, G, stepG, unwind, Base.rf, Base.fr, hf, r1, Out.result, GStep.after, doReturn, hi]
theorem msafe_conB {P : Program} {Post : Value → World → Prop} {W : World} {f : FuncId} {args : List Value} {R : Value → LH → Prop} (hi : P.inits.idxOf? f = none) (x : ConB P f args (LH.all W) R) (hp : ∀ v h' w, R v h' → Fits h' w → Same W w → Post v w) : MSafe P Post W (LH.all W) (G (Frame.enter P f args.toArray .normal) []) := by
  refine x _ msafe_main [] fun n rs vs E h' k hf hr hR => ?_
  obtain ⟨fn, h1, h2⟩ := hf.out
  exact msafe_regime.ret rfl (msafe_back hi h1 h2 hr.out fun w hw hs => hp _ _ _ hR hw hs)
theorem calm_nil {n : Nat} : Calm #[] n :=
  ⟨fun op h => absurd h (by simp), fun said => by
    rintro ⟨i, j, _, ⟨a, b, ha, _⟩, _⟩
    simp [Trace.act?] at ha, fun i x h => by simp [Go.Conc.touchAt, Trace.act?] at h, fun op h => absurd h (by simp)⟩
/-- A world in which a call begins. -/
theorem msafe_ends {P : Program} {Post : Value → World → Prop} {W : World} {g : Goroutine} (x : MSafe P Post W (LH.all W) g) (hc : Calm #[] 1) : Ends P Post (lm [g] W none) #[] :=
  x [] W none #[] (by simp) fits_all hc ⟨rfl, rfl, rfl, Nat.le_refl _⟩
end Go.SL
