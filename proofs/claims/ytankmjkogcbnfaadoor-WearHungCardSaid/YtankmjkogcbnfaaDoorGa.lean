/-
  The calculus of local heaps, part nine: the rules, their side conditions found by search.
-/
import Derived.Conc.Own
import Derived.Orders
import Derived.Laws.Sem
namespace Go.SL
open Go.Conc (G)

/-- What a goroutine knows of memory ('get') and what of it it may write ('own'); 'gh': values that the proof keeps beside. -/
structure LH where
  get : Nat → Option Obj
  own : Nat → Prop
  gh : List Value

def LH.upd (h : LH) (b : Nat) (o : Obj) : LH :=
  { get := fun x => if x = b then some o else h.get x, own := fun x => h.own x ∨ x = b, gh := h.gh }

structure Fits (h : LH) (w : World) : Prop where
  get : ∀ b o, h.get b = some o → w.heap[b]? = some o
  own : ∀ b, h.own b → ∃ o, h.get b = some o

def Obj.plain : Obj → Bool
  | .cells .. | .chan .. => false
  | _ => true

/-- What an event may be: a plain touch of a block that is known, a write of one that is owned; the mark 'noRoom'. -/
def EvOk (h : LH) (e : Event) : Prop :=
  match e.loc with
  | .cell a => e.sync = false ∧ h.get a.block ≠ none ∧ (e.write = true → h.own a.block)
  | .obj r => e.sync = false ∧ h.get r ≠ none ∧ (e.write = true → h.own r)
  | .mark m => m = .noRoom
  | _ => False

structure Trans (h : LH) (w : World) (h' : LH) (w' : World) (es : Array Event) : Prop where
  fits : Fits h' w'
  size : w.heap.size ≤ w'.heap.size
  keep : ∀ b, b < w.heap.size → ¬ h.own b → w'.heap[b]? = w.heap[b]?
  ownNew : ∀ b, h'.own b → h.own b ∨ w.heap.size ≤ b
  ownMono : ∀ b, h.own b → h'.own b
  dom : ∀ b, h.get b ≠ none → h'.get b ≠ none
  ro : ∀ b, ¬ h'.own b → h'.get b = h.get b
  os : w'.os = w.os
  output : w'.output = w.output
  tape : w'.tape = w.tape
  evs : ∀ e ∈ es, EvOk h' e
  gh : h'.gh = h.gh

theorem EvOk.mono {h h' : LH} (hd : ∀ b, h.get b ≠ none → h'.get b ≠ none) (ho : ∀ b, h.own b → h'.own b) {e : Event} (he : EvOk h e) : EvOk h' e := by
  unfold EvOk at *
  cases hl : e.loc <;> simp only [hl] at he ⊢ <;> try exact he
  · exact ⟨he.1, hd _ he.2.1, fun x => ho _ (he.2.2 x)⟩
  · exact ⟨he.1, hd _ he.2.1, fun x => ho _ (he.2.2 x)⟩

theorem Trans.refl {h : LH} {w : World} (hf : Fits h w) : Trans h w h w #[] :=
  ⟨hf, Nat.le_refl _, fun _ _ _ => rfl, fun _ x => .inl x, fun _ x => x, fun _ x => x, fun _ _ => rfl, rfl, rfl, rfl, by simp, rfl⟩

theorem Trans.trans {h₁ h₂ h₃ : LH} {w₁ w₂ w₃ : World} {e₁ e₂ : Array Event} (a : Trans h₁ w₁ h₂ w₂ e₁) (b : Trans h₂ w₂ h₃ w₃ e₂) : Trans h₁ w₁ h₃ w₃ (e₁ ++ e₂) where
  fits := b.fits
  size := Nat.le_trans a.size b.size
  keep := fun x hx ho => (b.keep x (Nat.lt_of_lt_of_le hx a.size) (fun h => (a.ownNew x h).elim ho (fun h => by omega))).trans (a.keep x hx ho)
  ownNew := fun x hx => (b.ownNew x hx).elim (a.ownNew x) (fun h => .inr (Nat.le_trans a.size h))
  ownMono := fun x hx => b.ownMono x (a.ownMono x hx)
  dom := fun x hx => b.dom x (a.dom x hx)
  ro := fun x hx => (b.ro x hx).trans (a.ro x (fun h => hx (b.ownMono x h)))
  os := b.os.trans a.os
  output := b.output.trans a.output
  tape := b.tape.trans a.tape
  evs := fun e he => (Array.mem_append.1 he).elim (fun h => (a.evs e h).mono b.dom b.ownMono) (b.evs e)
  gh := b.gh.trans a.gh

theorem Trans.drew {h : LH} {w : World} (hf : Fits h w) : Trans h w h { w with drawn := w.drawn + 1 } #[] :=
  ⟨⟨hf.get, hf.own⟩, Nat.le_refl _, fun _ _ _ => rfl, fun _ x => .inl x, fun _ x => x, fun _ x => x, fun _ _ => rfl, rfl, rfl, rfl, by simp, rfl⟩

theorem Trans.event {h : LH} {w : World} (hf : Fits h w) {e : Event} (he : EvOk h e) : Trans h w h w #[e] :=
  { Trans.refl hf with evs := by simpa using he }

theorem Trans.new {h : LH} {w : World} (hf : Fits h w) (o : Obj) : h.get w.heap.size = none ∧ Trans h w (h.upd w.heap.size o) { w with heap := w.heap.push o } #[] := by
  have hn : h.get w.heap.size = none := by
    cases hg : h.get w.heap.size with
    | none => rfl
    | some o => have := hf.get _ _ hg; simp at this
  refine ⟨hn, ⟨⟨fun b x hx => ?_, fun b hb => ?_⟩, by simp, fun b hb _ => by simp [Array.getElem?_push, Nat.ne_of_lt hb], fun b hb => ?_, fun b hb => .inl hb, fun b hb => ?_, fun b hb => ?_, rfl, rfl, rfl, by simp, rfl⟩⟩
  · simp only [LH.upd] at hx
    split at hx
    · cases hx; subst b; simp
    · have := hf.get _ _ hx
      have hlt : b < w.heap.size := (Array.getElem?_eq_some_iff.1 this).1
      simp [Array.getElem?_push, Nat.ne_of_lt hlt, this]
  · rcases hb with hb | rfl
    · obtain ⟨x, hx⟩ := hf.own b hb
      by_cases e : b = w.heap.size
      · exact ⟨o, by simp [LH.upd, e]⟩
      · exact ⟨x, by simp [LH.upd, e, hx]⟩
    · exact ⟨o, by simp [LH.upd]⟩
  · rcases hb with hb | rfl
    · exact .inl hb
    · exact .inr (Nat.le_refl _)
  · simp only [LH.upd]; split <;> simp_all
  · simp only [LH.upd] at hb ⊢; rw [if_neg (fun e => hb (.inr e))]

theorem Trans.write {h : LH} {w : World} (hf : Fits h w) {b : Nat} {o o' : Obj} (ho : h.own b) (hg : h.get b = some o) {heap : Array Obj} (hh : heap = w.heap.setIfInBounds b o') {e : Event} (he : EvOk (h.upd b o') e) :
    Trans h w (h.upd b o') { w with heap := heap } #[e] := by
  subst hh
  have hb := hf.get _ _ hg
  have hlt : b < w.heap.size := (Array.getElem?_eq_some_iff.1 hb).1
  refine ⟨⟨fun x y hx => ?_, fun x hx => ?_⟩, by simp, fun x _ hx => ?_, fun x hx => ?_, fun x hx => .inl hx, fun x hx => ?_, fun x hx => ?_, rfl, rfl, rfl, by simpa using he, rfl⟩
  · simp only [LH.upd] at hx
    split at hx
    · cases hx; subst x; simp [hlt]
    · rename_i hne; have := hf.get _ _ hx; simp [Ne.symm hne, this]
  · by_cases e : x = b
    · exact ⟨o', by simp [LH.upd, e]⟩
    · obtain ⟨y, hy⟩ := hf.own x (hx.resolve_right e)
      exact ⟨y, by simp [LH.upd, e, hy]⟩
  · have hne : ¬ b = x := fun e => hx (e ▸ ho)
    simp [hne]
  · exact .inl (hx.elim id (fun e => e ▸ ho))
  · simp only [LH.upd]; split <;> simp_all
  · simp only [LH.upd] at hx ⊢; rw [if_neg (fun e => hx (.inr e))]

inductive Out (α : Type) where
  | ok (a : α)
  | panic (v : Value)

def Out.result {α : Type} : Out α → World → Result α
  | .ok a, w => .ok a w
  | .panic v, w => .halt (.panic v) w

def Value.single : Value → Bool
  | .agg _ | .tuple _ => false
  | _ => true

def shapeOf : Obj → Option (TypeId × Nat)
  | .cells c e _ => some (e, c.size)
  | _ => none

def wps (P : Program) {α : Type} : Sem α → LH → (Out α → LH → Prop) → Prop
  | .pure a, h, K => K (.ok a) h
  | .load m a k, h, K => m = .plain ∧ ∃ c e f v, h.get a.block = some (.cells c e f) ∧ a.spot = none ∧ c[a.off]? = some v ∧ wps P (k v) h K
  | .store m a v k, h, K => m = .plain ∧ Value.single v = true ∧ h.own a.block ∧
      ∃ c e f, h.get a.block = some (.cells c e f) ∧ a.spot = none ∧ a.off < c.size ∧ (f.1 ≤ a.off && a.off < f.2) = false ∧ wps P k (h.upd a.block (.cells (c.setIfInBounds a.off v) e f)) K
  | .new o k, h, K => ∀ b, h.get b = none → wps P (k b) (h.upd b o) K
  | .shape r k, h, K => ∃ o, h.get r = some o ∧ wps P (k (shapeOf o)) h K
  | .freeze _ _ _, _, _ => False
  | .frozen a k, h, K => ∃ c e f, h.get a.block = some (.cells c e f) ∧ wps P (k (f.1 ≤ a.off && a.off < f.2)) h K
  | .getObj r k, h, K => ∃ o, h.get r = some o ∧ Obj.plain o = true ∧ wps P (k o) h K
  | .setObj r o k, h, K => h.own r ∧ ∃ o₀, h.get r = some o₀ ∧ Obj.plain o₀ = true ∧ Obj.plain o = true ∧ wps P k (h.upd r o) K
  | .choose q k, h, K => if q.forced then wps P (k 0) h K else ∀ t, wps P (k (q.cut t)) h K
  | .program k, h, K => wps P (k P) h K
  | .mark m k, h, K => m = .noRoom ∧ wps P k h K
  | .halt (.panic v), h, K => K (.panic v) h
  | _, _, _ => False

theorem wps_mono {P : Program} {α : Type} {K K' : Out α → LH → Prop} (hK : ∀ o h, K o h → K' o h) : ∀ (s : Sem α) (h : LH), wps P s h K → wps P s h K' := by
  intro s
  induction s with
  | pure a => exact fun h x => hK _ _ x
  | load m a k ih => exact fun h ⟨e, c, t, f, v, x1, x2, x3, x4⟩ => ⟨e, c, t, f, v, x1, x2, x3, ih _ _ x4⟩
  | store m a v k ih => exact fun h ⟨e, x0, x1, c, t, f, x2, x3, x4, x5, x6⟩ => ⟨e, x0, x1, c, t, f, x2, x3, x4, x5, ih _ x6⟩
  | new o k ih => exact fun h x b hb => ih _ _ (x b hb)
  | shape r k ih => exact fun h ⟨o, x1, x2⟩ => ⟨o, x1, ih _ _ x2⟩
  | freeze a n k ih => exact fun h x => x
  | frozen a k ih => exact fun h ⟨c, e, f, x1, x2⟩ => ⟨c, e, f, x1, ih _ _ x2⟩
  | getObj r k ih => exact fun h ⟨o, x1, x2, x3⟩ => ⟨o, x1, x2, ih _ _ x3⟩
  | setObj r o k ih => exact fun h ⟨x1, o₀, x2, x3, x4, x5⟩ => ⟨x1, o₀, x2, x3, x4, ih _ x5⟩
  | choose q k ih =>
    intro h x
    simp only [wps] at x ⊢
    split
    · rw [if_pos ‹_›] at x; exact ih _ _ x
    · rw [if_neg ‹_›] at x; exact fun t => ih _ _ (x t)
  | sys c k ih => exact fun h x => x
  | program k ih => exact fun h x => ih _ _ x
  | mark m k ih => exact fun h ⟨e, x⟩ => ⟨e, ih _ x⟩
  | halt x =>
    intro h y
    cases x <;> first | exact hK _ _ y | exact y

theorem wps_bind {P : Program} {α β : Type} {K : Out β → LH → Prop} (f : α → Sem β) : ∀ (s : Sem α) (h : LH),
    wps P s h (fun o h' => match o with | .ok a => wps P (f a) h' K | .panic v => K (.panic v) h') → wps P (s.bind f) h K := by
  intro s
  induction s with
  | pure a => exact fun h x => x
  | load m a k ih => exact fun h ⟨e, c, t, g, v, x1, x2, x3, x4⟩ => ⟨e, c, t, g, v, x1, x2, x3, ih _ _ x4⟩
  | store m a v k ih => exact fun h ⟨e, x0, x1, c, t, g, x2, x3, x4, x5, x6⟩ => ⟨e, x0, x1, c, t, g, x2, x3, x4, x5, ih _ x6⟩
  | new o k ih => exact fun h x b hb => ih _ _ (x b hb)
  | shape r k ih => exact fun h ⟨o, x1, x2⟩ => ⟨o, x1, ih _ _ x2⟩
  | freeze a n k ih => exact fun h x => x
  | frozen a k ih => exact fun h ⟨c, e, g, x1, x2⟩ => ⟨c, e, g, x1, ih _ _ x2⟩
  | getObj r k ih => exact fun h ⟨o, x1, x2, x3⟩ => ⟨o, x1, x2, ih _ _ x3⟩
  | setObj r o k ih => exact fun h ⟨x1, o₀, x2, x3, x4, x5⟩ => ⟨x1, o₀, x2, x3, x4, ih _ x5⟩
  | choose q k ih =>
    intro h x
    simp only [wps, Sem.bind] at x ⊢
    split
    · rw [if_pos ‹_›] at x; exact ih _ _ x
    · rw [if_neg ‹_›] at x; exact fun t => ih _ _ (x t)
  | sys c k ih => exact fun h x => x
  | program k ih => exact fun h x => ih _ _ x
  | mark m k ih => exact fun h ⟨e, x⟩ => ⟨e, ih _ x⟩
  | halt x =>
    intro h y
    cases x <;> first | exact y | exact y.elim

theorem cell_of {h : LH} {w : World} (hf : Fits h w) {a : Addr} {c : Array Value} {e : TypeId} {f : Nat × Nat} {v : Value} (hg : h.get a.block = some (.cells c e f)) (hs : a.spot = none) (hv : c[a.off]? = some v) : w.cell? a = some v := by
  simp [World.cell?, hf.get _ _ hg, hs, hv]

theorem wps_run {P : Program} {α : Type} {K : Out α → LH → Prop} : ∀ (s : Sem α) (h : LH) (w : World) (es : Array Event), Fits h w → wps P s h K →
    ∃ o w' h' new, s.runT P w es = (o.result w', es ++ new) ∧ K o h' ∧ Trans h w h' w' new := by
  intro s
  induction s with
  | pure a => exact fun h w es hf x => ⟨.ok a, w, h, #[], by simp [Sem.runT, Out.result], x, .refl hf⟩
  | load m a k ih =>
    rintro h w es hf ⟨rfl, c, t, f, v, x1, x2, x3, x4⟩
    have hev : EvOk h ⟨.cell a, false, false⟩ := ⟨rfl, by simp [x1], by simp⟩
    obtain ⟨o, w', h', new, r1, r2, r3⟩ := ih v h w (es.push ⟨.cell a, false, false⟩) hf x4
    refine ⟨o, w', h', #[⟨.cell a, false, false⟩] ++ new, ?_, r2, (Trans.event hf hev).trans r3⟩
    simp only [Sem.runT, cell_of hf x1 x2 x3]
    show (k v).runT P w (es.push ⟨.cell a, false, false⟩) = _
    rw [r1]; simp
  | store m a v k ih =>
    rintro h w es hf ⟨rfl, x0, x1, c, t, f, x2, x3, x4, x5, x6⟩
    have hc : w.cell? a = some c[a.off] := cell_of hf x2 x3 (by simp [x4])
    have hfr : w.frozen? a = false := by simp only [World.frozen?, hf.get _ _ x2]; exact x5
    have hlt : a.block < w.heap.size := (Array.getElem?_eq_some_iff.1 (hf.get _ _ x2)).1
    have hset : (w.setCell a v).heap = w.heap.setIfInBounds a.block (.cells (c.setIfInBounds a.off v) t f) := by
      have hb : w.heap[a.block]'hlt = .cells c t f := (Array.getElem?_eq_some_iff.1 (hf.get _ _ x2)).2
      simp only [World.setCell]
      apply Array.ext
      · simp
      · intro i h1 h2
        by_cases e : a.block = i
        · subst e; simp [Array.getElem_modify, hb, x3]
        · rw [Array.getElem_modify_of_ne e, Array.getElem_setIfInBounds_ne (h := e)]
    have hev : EvOk (h.upd a.block (.cells (c.setIfInBounds a.off v) t f)) ⟨.cell a, true, false⟩ := ⟨rfl, by simp [LH.upd], fun _ => .inr rfl⟩
    have htr : Trans h w (h.upd a.block (.cells (c.setIfInBounds a.off v) t f)) (w.setCell a v) #[⟨.cell a, true, false⟩] := Trans.write (w := w) hf x1 x2 hset hev
    obtain ⟨o, w', h', new, r1, r2, r3⟩ := ih _ (w.setCell a v) (es.push ⟨.cell a, true, false⟩) htr.fits x6
    refine ⟨o, w', h', #[⟨.cell a, true, false⟩] ++ new, ?_, r2, htr.trans r3⟩
    have : Sem.runT P (.store .plain a v k) w es = k.runT P (w.setCell a v) (es.push ⟨.cell a, true, false⟩) := by
      cases v <;> simp only [Value.single, Bool.false_eq_true] at x0 <;> simp only [Sem.runT, hc, hfr] <;> rfl
    rw [this, r1]; simp
  | new o k ih =>
    intro h w es hf x
    obtain ⟨hn, htr⟩ := Trans.new hf o
    obtain ⟨o', w', h', new, r1, r2, r3⟩ := ih w.heap.size _ { w with heap := w.heap.push o } es htr.fits (x _ hn)
    exact ⟨o', w', h', new, by simp only [Sem.runT]; exact r1, r2, by simpa using htr.trans r3⟩
  | shape r k ih =>
    rintro h w es hf ⟨o, x1, x2⟩
    have : w.shape? r = shapeOf o := by simp only [World.shape?, hf.get _ _ x1]; cases o <;> rfl
    obtain ⟨o', w', h', new, r1, r2, r3⟩ := ih _ h w es hf x2
    exact ⟨o', w', h', new, by simp only [Sem.runT, this]; exact r1, r2, r3⟩
  | freeze a n k ih => exact fun h w es hf x => x.elim
  | frozen a k ih =>
    rintro h w es hf ⟨c, e, f, x1, x2⟩
    have : w.frozen? a = (f.1 ≤ a.off && a.off < f.2) := by simp only [World.frozen?, hf.get _ _ x1]
    obtain ⟨o', w', h', new, r1, r2, r3⟩ := ih _ h w es hf x2
    exact ⟨o', w', h', new, by simp only [Sem.runT, this]; exact r1, r2, r3⟩
  | getObj r k ih =>
    rintro h w es hf ⟨o, x1, x2, x3⟩
    have hg := hf.get _ _ x1
    have hev : EvOk h ⟨.obj r, false, false⟩ := ⟨rfl, by simp [x1], by simp⟩
    obtain ⟨o', w', h', new, r1, r2, r3⟩ := ih o h w (es.push ⟨.obj r, false, false⟩) hf x3
    refine ⟨o', w', h', #[⟨.obj r, false, false⟩] ++ new, ?_, r2, (Trans.event hf hev).trans r3⟩
    have : Sem.runT P (.getObj r k) w es = (k o).runT P w (es.push ⟨.obj r, false, false⟩) := by
      cases o <;> simp only [Obj.plain, Bool.false_eq_true] at x2 <;> simp only [Sem.runT, hg, Obj.isChan]
    rw [this, r1]; simp
  | setObj r o k ih =>
    rintro h w es hf ⟨x1, o₀, x2, x3, x4, x5⟩
    have hg := hf.get _ _ x2
    have hev : EvOk (h.upd r o) ⟨.obj r, true, false⟩ := ⟨rfl, by simp [LH.upd], fun _ => .inr rfl⟩
    have htr := Trans.write hf x1 x2 (o' := o) rfl hev
    obtain ⟨o', w', h', new, r1, r2, r3⟩ := ih _ _ (es.push ⟨.obj r, true, false⟩) htr.fits x5
    refine ⟨o', w', h', #[⟨.obj r, true, false⟩] ++ new, ?_, r2, htr.trans r3⟩
    have : Sem.runT P (.setObj r o k) w es = k.runT P { w with heap := w.heap.setIfInBounds r o } (es.push ⟨.obj r, true, false⟩) := by
      cases o₀ <;> simp only [Obj.plain, Bool.false_eq_true] at x3 <;> cases o <;> simp only [Obj.plain, Bool.false_eq_true] at x4 <;> simp only [Sem.runT, hg, Obj.isChan]
    rw [this, r1]; simp
  | choose q k ih =>
    intro h w es hf x
    simp only [wps] at x
    simp only [Sem.runT]
    split
    · rw [if_pos ‹_›] at x; exact ih _ h w es hf x
    · rw [if_neg ‹_›] at x
      obtain ⟨o', w', h', new, r1, r2, r3⟩ := ih _ h { w with drawn := w.drawn + 1 } es ⟨hf.get, hf.own⟩ (x (w.tape w.drawn q))
      exact ⟨o', w', h', new, r1, r2, by simpa using (Trans.drew hf).trans r3⟩
  | sys c k ih => exact fun h w es hf x => x.elim
  | program k ih =>
    intro h w es hf x
    obtain ⟨o', w', h', new, r1, r2, r3⟩ := ih P h w es hf x
    exact ⟨o', w', h', new, by simp only [Sem.runT]; exact r1, r2, r3⟩
  | mark m k ih =>
    rintro h w es hf ⟨rfl, x⟩
    have hev : EvOk h ⟨.mark .noRoom, false, true⟩ := rfl
    obtain ⟨o', w', h', new, r1, r2, r3⟩ := ih h w (es.push ⟨.mark .noRoom, false, true⟩) hf x
    refine ⟨o', w', h', #[⟨.mark .noRoom, false, true⟩] ++ new, ?_, r2, (Trans.event hf hev).trans r3⟩
    simp only [Sem.runT]; rw [r1]; simp
  | halt x =>
    intro h w es hf y
    cases x with
    | panic v => exact ⟨.panic v, w, h, #[], by simp [Sem.runT, Out.result], y, .refl hf⟩
    | _ => exact y.elim
end Go.SL
/-
  The calculus of local heaps, part two: a goroutine's own steps. 'Regime P main S': S holds of a state if it holds behind each of the state's own steps. Rules: moves of control, operations, calls, returns.
-/
namespace Go.SL
open Go.Conc (G)

def StepL (P : Program) (main : Bool) (h : LH) (g : Goroutine) (K : LH → Goroutine → Prop) : Prop :=
  ∀ w, Fits h w → ∃ g' w' es h', stepG P main g w = .go g' w' es ∧ g'.status = .running ∧ Trans h w h' w' es ∧ K h' g'

structure Regime (P : Program) (main : Bool) (S : LH → Goroutine → Prop) : Prop where
  step : ∀ h g, g.status = .running → StepL P main h g S → S h g

structure Base where
  fn : FuncId
  n : Nat
  kind : CallKind
  round : Option Nat

abbrev Env := Nat → Value

def Base.fr (b : Base) (E : Env) (ds : List Deferred) (k : List Item) : Frame :=
  { fn := b.fn, tmps := Array.ofFn (n := b.n) (fun i => E i), todo := k, defers := ds, mode := .run, kind := b.kind, roundOf := b.round }

def Base.rf (b : Base) (E : Env) (ds : List Deferred) (k : List Item) : Frame := { b.fr E ds k with mode := .returning }
def Base.pf (b : Base) (E : Env) (ds : List Deferred) (k : List Item) (ch : List PanicEntry) : Frame := { b.fr E ds k with mode := .panicking ch }

def ev (n : Nat) (E : Env) : Operand → Value
  | .tmp t => if t < n then E t else undef
  | .const v => v
  | .global g => .pointer (some ⟨g, 0, none⟩)
  | .func f => .func (.func f) #[] #[]

def upd (E : Env) (d : Nat) (v : Value) : Env := fun i => if i = d then v else E i
def putE (E : Env) (d : Option Tmp) (v : Value) : Env := match d with | some d => upd E d v | none => E
def ofL (l : List Value) : Env := fun i => l.getD i undef

theorem ofFn_getD (n : Nat) (E : Env) (t : Nat) : (Array.ofFn (n := n) (fun i => E i)).getD t undef = if t < n then E t else undef := by
  simp only [Array.getD, Array.size_ofFn]
  split <;> simp

theorem eval_fr (b : Base) (E : Env) (ds : List Deferred) (k : List Item) : (b.fr E ds k).eval = ev b.n E := by
  funext x
  cases x <;> simp only [Frame.eval, Base.fr, ev, ofFn_getD]

theorem setIf_ofFn (n : Nat) (E : Env) (d : Nat) (v : Value) : (Array.ofFn (n := n) (fun i => E i)).setIfInBounds d v = Array.ofFn (n := n) (fun i => upd E d v i) := by
  apply Array.ext
  · simp
  · intro i h1 h2
    by_cases e : d = i
    · subst e; simp [upd]
    · have h3 : i < (Array.ofFn (n := n) fun i => E i).size := by simpa using h2
      rw [Array.getElem_setIfInBounds_ne (h := e) (hj := h3), Array.getElem_ofFn, Array.getElem_ofFn]; simp [upd, Ne.symm e]

theorem finish_fr (b : Base) (E : Env) (ds : List Deferred) (ops : Array Oper) (i : Nat) (rest : List Nat) (k : List Item) (v : Value) :
    (b.fr E ds (.inRegion ops (i :: rest) :: k)).finish v = b.fr (putE E ((ops[i]?).bind (·.dst)) v) ds (.inRegion ops rest :: k) := by
  simp only [Frame.finish, Base.fr, putE]
  cases (ops[i]?).bind (·.dst) with
  | none => rfl
  | some d => simp only [setIf_ofFn]

section
variable {P : Program} {main : Bool} {S : LH → Goroutine → Prop} {b : Base} {E : Env} {ds : List Deferred} {k : List Item} {cs : List Frame} {h : LH}

/-- A step that turns nothing. -/
theorem Regime.silent (hS : Regime P main S) {g g' : Goroutine} (hr : g.status = .running) (hr' : g'.status = .running) (hs : ∀ w, stepG P main g w = .go g' w #[]) (hk : S h g') : S h g :=
  hS.step h g hr fun w hf => ⟨g', w, #[], h, hs w, hr', .refl hf, hk⟩

theorem Regime.seq (hS : Regime P main S) {x y : Code} (hk : S h (G (b.fr E ds (.code x :: .code y :: k)) cs)) : S h (G (b.fr E ds (.code (.seq x y) :: k)) cs) :=
  hS.silent rfl rfl (fun w => by simp [G, stepG, stepG.exec, Base.fr]) hk
theorem Regime.skip (hS : Regime P main S) (hk : S h (G (b.fr E ds k) cs)) : S h (G (b.fr E ds (.code .skip :: k)) cs) :=
  hS.silent rfl rfl (fun w => by simp [G, stepG, stepG.exec, Base.fr]) hk
theorem Regime.label (hS : Regime P main S) {l : Nat} (hk : S h (G (b.fr E ds k) cs)) : S h (G (b.fr E ds (.code (.label l) :: k)) cs) :=
  hS.silent rfl rfl (fun w => by simp [G, stepG, stepG.exec, Base.fr]) hk
theorem Regime.block (hS : Regime P main S) {id : Nat} {c : Code} (hk : S h (G (b.fr E ds (.code c :: .inBlock id :: k)) cs)) : S h (G (b.fr E ds (.code (.block id c) :: k)) cs) :=
  hS.silent rfl rfl (fun w => by simp [G, stepG, stepG.exec, Base.fr]) hk
theorem Regime.inBlock (hS : Regime P main S) {id : Nat} (hk : S h (G (b.fr E ds k) cs)) : S h (G (b.fr E ds (.inBlock id :: k)) cs) :=
  hS.silent rfl rfl (fun w => by simp [G, stepG, stepG.exec, Base.fr]) hk
theorem Regime.scope (hS : Regime P main S) {c : Code} (hk : S h (G (b.fr E ds (.code c :: .inScope c :: k)) cs)) : S h (G (b.fr E ds (.code (.scope c) :: k)) cs) :=
  hS.silent rfl rfl (fun w => by simp [G, stepG, stepG.exec, Base.fr]) hk
theorem Regime.inScope (hS : Regime P main S) {c : Code} (hk : S h (G (b.fr E ds k) cs)) : S h (G (b.fr E ds (.inScope c :: k)) cs) :=
  hS.silent rfl rfl (fun w => by simp [G, stepG, stepG.exec, Base.fr]) hk
theorem Regime.loop (hS : Regime P main S) {c : Code} (hk : S h (G (b.fr E ds (.code c :: .inLoop c :: k)) cs)) : S h (G (b.fr E ds (.code (.loop c) :: k)) cs) :=
  hS.silent rfl rfl (fun w => by simp [G, stepG, stepG.exec, Base.fr]) hk
theorem Regime.inLoop (hS : Regime P main S) {c : Code} (hk : S h (G (b.fr E ds (.code c :: .inLoop c :: k)) cs)) : S h (G (b.fr E ds (.inLoop c :: k)) cs) :=
  hS.silent rfl rfl (fun w => by simp [G, stepG, stepG.exec, Base.fr]) hk
theorem Regime.cond (hS : Regime P main S) {c : Operand} {x y : Code} {t : Bool} (hc : ev b.n E c = .bool t) (ht : t = true → S h (G (b.fr E ds (.code x :: k)) cs)) (hf : t = false → S h (G (b.fr E ds (.code y :: k)) cs)) :
    S h (G (b.fr E ds (.code (.cond c x y) :: k)) cs) := by
  refine hS.silent (g' := G (b.fr E ds (.code (if t then x else y) :: k)) cs) rfl rfl (fun w => ?_) ?_
  · have he : (b.fr E ds (.code (.cond c x y) :: k)).eval c = .bool t := by rw [eval_fr]; exact hc
    simp only [Base.fr] at he
    simp [G, stepG, stepG.exec, Base.fr, he]
  · cases t
    · exact hf rfl
    · exact ht rfl
theorem Regime.exit (hS : Regime P main S) {id : Nat} {k' : List Item} (he : exitTo id k = some k') (hk : S h (G (b.fr E ds k') cs)) : S h (G (b.fr E ds (.code (.exit id) :: k)) cs) :=
  hS.silent rfl rfl (fun w => by simp [G, stepG, stepG.exec, Base.fr, he]) hk
theorem Regime.ret (hS : Regime P main S) (hb : b.round = none) (hk : S h (G (b.rf E ds (.code .ret :: k)) cs)) : S h (G (b.fr E ds (.code .ret :: k)) cs) :=
  hS.silent rfl rfl (fun w => by simp [G, stepG, stepG.exec, Base.fr, Base.rf, hb]) hk
theorem Regime.fin (hS : Regime P main S) (hb : b.round = none) (hk : S h (G (b.rf E ds []) cs)) : S h (G (b.fr E ds []) cs) :=
  hS.silent rfl rfl (fun w => by simp [G, stepG, stepG.exec, Base.fr, Base.rf, hb]) hk
theorem Regime.region (hS : Regime P main S) {id : Nat} {ops : Array Oper} (hk : S h (G (b.fr E ds (.inRegion ops (List.range ops.size) :: k)) cs)) : S h (G (b.fr E ds (.code (.region id ops false) :: k)) cs) :=
  hS.silent rfl rfl (fun w => by simp [G, stepG, stepG.exec, Base.fr]) hk
theorem Regime.regionDraw (hS : Regime P main S) {id : Nat} {ops : Array Oper} (hk : ∀ t, S h (G (b.fr E ds (.inRegion ops (Region.schedule (P.follows .mixedOrders) ops t) :: k)) cs)) : S h (G (b.fr E ds (.code (.region id ops true) :: k)) cs) := by
  refine hS.step h _ rfl fun w hf => ?_
  refine ⟨G (b.fr E ds (.inRegion ops (Region.schedule (P.follows .mixedOrders) ops (w.tape w.drawn (.order b.fn id))) :: k)) cs, { w with drawn := w.drawn + 1 }, #[], h, ?_, rfl, .drew hf, hk _⟩
  simp [G, stepG, stepG.exec, Base.fr, choose, Sem.run, Question.forced, Question.cut]
theorem Regime.regionEnd (hS : Regime P main S) {ops : Array Oper} (hk : S h (G (b.fr E ds k) cs)) : S h (G (b.fr E ds (.inRegion ops [] :: k)) cs) :=
  hS.silent rfl rfl (fun w => by simp [G, stepG, stepG.exec, Base.fr]) hk

theorem seen_mem {fn : FuncId} {es : Array Event} {e : Event} (he : e ∈ seen P fn es) : e ∈ es := by
  have key : ∀ (l : List Event) (x : Bool × Array Event), e ∈ (l.foldl (fun (x : Bool × Array Event) (e : Event) => match e.loc with
      | .mark (.extern f) => ((P.funcs[f]?).any (·.norace), x.2)
      | _ => (x.1, if x.1 && !e.sync then x.2 else x.2.push e)) x).2 → e ∈ x.2 ∨ e ∈ l := by
    intro l
    induction l with
    | nil => exact fun x h => .inl h
    | cons y l ih =>
      intro x h
      rcases ih _ h with h | h
      · revert h
        dsimp only
        split
        · exact .inl
        · dsimp only
          split
          · exact .inl
          · intro h
            rcases Array.mem_push.1 h with h | h
            · exact .inl h
            · exact .inr (h ▸ List.mem_cons_self)
      · exact .inr (List.mem_cons_of_mem _ h)
  unfold seen at he
  simp only [← Array.foldl_toList] at he
  rcases key es.toList _ he with h | h
  · simp at h
  · exact Array.mem_toList_iff.1 h

/-- What is asked behind an operation, by what it yields. -/
def NextK (P : Program) (S : LH → Goroutine → Prop) (b : Base) (E : Env) (ds : List Deferred) (ops : Array Oper) (i : Nat) (rest : List Nat) (k : List Item) (cs : List Frame) (dst : Option Tmp) : Out Next → LH → Prop
  | .ok (.value v), h => S h (G (b.fr (putE E dst v) ds (.inRegion ops rest :: k)) cs)
  | .ok .skip, h => S h (G (b.fr (putE E dst undef) ds (.inRegion ops rest :: k)) cs)
  | .ok (.enter f args), h => S h (G (Frame.enter P f args .normal) (b.fr E ds (.inRegion ops (i :: rest) :: k) :: cs))
  | .ok (.round l f tmps assign body), h => S h (G (Frame.round l f tmps assign body .normal) (b.fr E ds (.inRegion ops (i :: rest) :: k) :: cs))
  | .ok (.defer d), h => S h (G (b.fr (putE E dst undef) (d :: ds) (.inRegion ops rest :: k)) cs)
  | .panic v, h => S h (G (b.pf E ds (.inRegion ops (i :: rest) :: k) [{ v, recovered := false }]) cs)
  | _, _ => False

theorem Regime.op (hS : Regime P main S) {ops : Array Oper} {i : Nat} {rest : List Nat} {o : Oper} (ho : ops[i]? = some o) (hw : Region.wanted o (yielded ops (Array.ofFn (n := b.n) fun i => E i)) = true)
    (hnd : b.round = none ∨ ∀ c, o.op ≠ .defer c) (hwp : wps P (execOp (ev b.n E) o) h (NextK P S b E ds ops i rest k cs o.dst)) : S h (G (b.fr E ds (.inRegion ops (i :: rest) :: k)) cs) := by
  have hfin := finish_fr b E ds ops i rest k
  rw [ho] at hfin
  simp only [Option.bind_some] at hfin
  refine hS.step h _ rfl fun w hf => ?_
  obtain ⟨out, w', h', new, r1, r2, r3⟩ := wps_run (P := P) _ h w #[] hf hwp
  have hst : stepG P main (G (b.fr E ds (.inRegion ops (i :: rest) :: k)) cs) w = stepG.apply P true (b.fr E ds (.inRegion ops (i :: rest) :: k)) cs none (execOp (ev b.n E) o) w := by
    have he := eval_fr b E ds (.inRegion ops (i :: rest) :: k)
    simp only [Base.fr] at he
    rcases hnd with hnd | hnd
    · rw [hnd] at he
      simp [G, stepG, stepG.exec, stepG.oper, Frame.oper?, Base.fr, ho, hw, he, hnd]
    · cases hr : b.round with
      | none =>
        rw [hr] at he
        simp [G, stepG, stepG.exec, stepG.oper, Frame.oper?, Base.fr, ho, hw, he, hr]
      | some l =>
        rw [hr] at he
        simp only [G, stepG, stepG.exec, stepG.oper, Frame.oper?, Base.fr, ho, hw, he, hr, Option.map_some, Option.getD_some, if_true]
        cases hop : o.op <;> first | rfl | exact absurd hop (hnd _)
  rw [hst]
  have hev : ∀ es : Array Event, (∀ e ∈ es, e ∈ new) → Trans h w h' w' es := fun es he => { r3 with evs := fun e hx => r3.evs e (he e hx) }
  have hmem : ∀ e ∈ seen P b.fn (if (b.kind == CallKind.early) = true then #[] else new), e ∈ new := fun e he => by
    have := seen_mem he
    split at this
    · simp at this
    · exact this
  rw [Array.empty_append] at r1
  rcases out with a | v
  · cases a <;> simp only [NextK] at r2
    · rename_i v
      refine ⟨_, w', _, h', ?_, rfl, hev _ hmem, r2⟩
      rw [← hfin]
      simp [-Sem.runT_eq, stepG.apply, r1, Out.result, GStep.after, G, Base.fr]
    · refine ⟨_, w', _, h', ?_, rfl, hev _ hmem, r2⟩
      rw [← hfin]
      simp [-Sem.runT_eq, stepG.apply, r1, Out.result, GStep.after, G, Base.fr]
    · refine ⟨_, w', _, h', ?_, rfl, hev _ hmem, r2⟩
      simp [-Sem.runT_eq, stepG.apply, r1, Out.result, GStep.after, G, Base.fr]
    · refine ⟨_, w', _, h', ?_, rfl, hev _ hmem, r2⟩
      simp [-Sem.runT_eq, stepG.apply, r1, Out.result, GStep.after, G, Base.fr]
    · rename_i d
      refine ⟨_, w', _, h', ?_, rfl, hev _ hmem, r2⟩
      have := finish_fr b E (d :: ds) ops i rest k undef
      rw [ho] at this
      simp only [Option.bind_some] at this
      rw [← this]
      simp [-Sem.runT_eq, stepG.apply, r1, Out.result, GStep.after, G, Base.fr]
  · refine ⟨_, w', _, h', ?_, rfl, hev _ hmem, r2⟩
    simp [-Sem.runT_eq, stepG.apply, r1, Out.result, GStep.after, G, Base.fr, Base.pf, Frame.raise]

/-- An operation whose guard says no. -/
theorem Regime.opNot (hS : Regime P main S) {ops : Array Oper} {i : Nat} {rest : List Nat} {o : Oper} (ho : ops[i]? = some o) (hw : Region.wanted o (yielded ops (Array.ofFn (n := b.n) fun i => E i)) = false)
    (hk : S h (G (b.fr (putE E o.dst undef) ds (.inRegion ops rest :: k)) cs)) : S h (G (b.fr E ds (.inRegion ops (i :: rest) :: k)) cs) := by
  have hfin := finish_fr b E ds ops i rest k undef
  rw [ho] at hfin
  simp only [Option.bind_some] at hfin
  rw [← hfin] at hk
  exact hS.silent rfl rfl (fun w => by simp [G, stepG, stepG.exec, Base.fr, ho, hw]) hk

/-- A frame that returns, its deferred calls done. -/
theorem Regime.back (hS : Regime P main S) {fn : Func} (hf : P.funcs[b.fn]? = some fn) {c : Frame} (hkd : b.kind = .normal)
    (hwp : wps P (results fn (Array.ofFn (n := b.n) fun i => E i)) h (fun o h' => match o with | .ok v => S h' (G (c.finish v) cs) | _ => False)) : S h (G (b.rf E [] k) (c :: cs)) := by
  refine hS.step h _ rfl fun w hfit => ?_
  obtain ⟨out, w', h', new, r1, r2, r3⟩ := wps_run (P := P) _ h w #[] hfit hwp
  rw [Array.empty_append] at r1
  rcases out with v | v
  · refine ⟨G (c.finish v) cs, w', seen P b.fn new, h', ?_, rfl, { r3 with evs := fun e hx => r3.evs e (seen_mem hx) }, r2⟩
    simp [-Sem.runT_eq, G, stepG, unwind, Base.rf, Base.fr, hf, r1, Out.result, GStep.after, doReturn, hkd]
  · exact r2.elim

/-- .. the deferred calls of a range-over-func loop: taken. -/
theorem Regime.backTaken (hS : Regime P main S) {r : Nat} {calls : List Deferred} {args : Array Value} (ho : h.own r) (hg : h.get r = some (.deferred (some calls)))
    (hk : S (h.upd r (.deferred none)) (G (b.rf E (calls ++ ds) k) cs)) : S h (G (b.rf E ({ target := .collected r, args } :: ds) k) cs) := by
  refine hS.step h _ rfl fun w hfit => ?_
  have hwp : wps P (Instr.takeDeferred r) h (fun o h' => o = .ok calls ∧ h' = h.upd r (.deferred none)) :=
    ⟨_, hg, rfl, ho, _, hg, rfl, rfl, rfl, rfl⟩
  obtain ⟨out, w', h', new, r1, ⟨rfl, rfl⟩, r3⟩ := wps_run (P := P) _ h w #[] hfit hwp
  rw [Array.empty_append] at r1
  refine ⟨G (b.rf E (calls ++ ds) k) cs, w', seen P b.fn new, _, ?_, rfl, { r3 with evs := fun e hx => r3.evs e (seen_mem hx) }, hk⟩
  simp [-Sem.runT_eq, G, stepG, unwind, Base.rf, Base.fr, r1, Out.result, GStep.after]

theorem enter_eq {f : FuncId} {fn : Func} {body : Code} {args : List Value} {kind : CallKind} (hf : P.funcs[f]? = some fn) (hb : fn.body = some body) (ha : args.length ≤ fn.ntmps) :
    Frame.enter P f args.toArray kind = (⟨f, fn.ntmps, kind, none⟩ : Base).fr (ofL args) [] [.code body] := by
  simp only [Frame.enter, Base.fr, hf, Option.map_some, Option.getD_some, Option.bind_some, hb, Frame.mk.injEq, true_and, and_true]
  apply Array.ext
  · simp; omega
  · intro i h1 h2
    simp only [Array.getElem_ofFn, ofL, Array.getElem_append]
    split
    · rename_i hlt
      simp only [List.size_toArray] at hlt
      simp [List.getD, hlt]
    · rename_i hlt
      simp only [List.size_toArray, Nat.not_lt] at hlt
      simp [List.getD, List.getElem?_eq_none hlt]
end
end Go.SL
/-
  The calculus of local heaps, part three: regions. 'OpS': what one operation asks; 'WL': operations in the order of the text; 'Any': operations in whatever order the edges allow, with the rule that an operation which only reads may be taken first. 'Fn': a function's contract.
-/
namespace Go.SL
open Go.Conc (G)

structure Ext (h h' : LH) : Prop where
  get : ∀ b o, h.get b = some o → h'.get b = some o
  own : ∀ b, h.own b → h'.own b
  gh : h'.gh = h.gh

theorem Ext.refl (h : LH) : Ext h h := ⟨fun _ _ x => x, fun _ x => x, rfl⟩
theorem Ext.trans {a b c : LH} (x : Ext a b) (y : Ext b c) : Ext a c := ⟨fun _ _ h => y.get _ _ (x.get _ _ h), fun _ h => y.own _ (x.own _ h), y.gh.trans x.gh⟩
theorem Ext.upd {h h' : LH} (x : Ext h h') {b : Nat} {o : Obj} (hn : h'.get b = none) : Ext h (h'.upd b o) :=
  ⟨fun y z hy => by
    have := x.get _ _ hy
    simp only [LH.upd]
    split
    · subst y; rw [hn] at this; cases this
    · exact this, fun y hy => .inl (x.own y hy), x.gh⟩

def arr (n : Nat) (E : Env) : Array Value := Array.ofFn (n := n) fun i => E i

/-- A call is entered: K behind its return, KP behind its panic. -/
def EnterK (S : LH → Goroutine → Prop) (cs : List Frame) (fr : Frame) (h : LH) (K : Value → LH → Prop) (KP : List PanicEntry → LH → Prop) : Prop :=
  ∀ c : Frame, (∀ v h', K v h' → S h' (G (c.finish v) cs)) → (∀ ch h', KP ch h' → S h' (G (c.raise ch) cs)) → S h (G fr (c :: cs))

def KPan (S : LH → Goroutine → Prop) (b : Base) (ds : List Deferred) (cs : List Frame) (ch : List PanicEntry) (h : LH) : Prop := ∀ E k, S h (G (b.pf E ds k ch) cs)

def NextO (P : Program) (S : LH → Goroutine → Prop) (b : Base) (cs : List Frame) (E : Env) (ds : List Deferred) (dst : Option Tmp) (K : Env → List Deferred → LH → Prop) : Out Next → LH → Prop
  | .ok (.value v), h => K (putE E dst v) ds h
  | .ok .skip, h => K (putE E dst undef) ds h
  | .ok (.enter f args), h => EnterK S cs (Frame.enter P f args .normal) h (fun v h' => K (putE E dst v) ds h') (KPan S b ds cs)
  | .ok (.round l f tmps assign body), h => EnterK S cs (Frame.round l f tmps assign body .normal) h (fun v h' => K (putE E dst v) ds h') (KPan S b ds cs)
  | .ok (.defer d), h => K (putE E dst undef) (d :: ds) h
  | .panic v, h => KPan S b ds cs [{ v, recovered := false }] h
  | _, _ => False

def OpS (P : Program) (S : LH → Goroutine → Prop) (b : Base) (cs : List Frame) (ops : Array Oper) (o : Oper) (E : Env) (ds : List Deferred) (h : LH) (K : Env → List Deferred → LH → Prop) : Prop :=
  (b.round = none ∨ ∀ c, o.op ≠ .defer c) ∧
  if Region.wanted o (yielded ops (arr b.n E)) = true then wps P (execOp (ev b.n E) o) h (NextO P S b cs E ds o.dst K) else K (putE E o.dst undef) ds h

section
variable {P : Program} {main : Bool} {S : LH → Goroutine → Prop} {b : Base} {E : Env} {ds : List Deferred} {k : List Item} {cs : List Frame} {h : LH} {ops : Array Oper}

theorem NextO.mono {dst : Option Tmp} {K K' : Env → List Deferred → LH → Prop} (hK : ∀ E ds h, K E ds h → K' E ds h) (o : Out Next) (h : LH) (x : NextO P S b cs E ds dst K o h) : NextO P S b cs E ds dst K' o h := by
  rcases o with a | v
  · cases a <;> first | exact hK _ _ _ x | exact x | exact fun c h1 h2 => x c (fun v h' hv => h1 v h' (hK _ _ _ hv)) h2
  · exact x

theorem OpS.mono {o : Oper} {K K' : Env → List Deferred → LH → Prop} (hK : ∀ E ds h, K E ds h → K' E ds h) (x : OpS P S b cs ops o E ds h K) : OpS P S b cs ops o E ds h K' := by
  refine ⟨x.1, ?_⟩
  have := x.2
  split
  · rw [if_pos ‹_›] at this; exact wps_mono (NextO.mono hK) _ _ this
  · rw [if_neg ‹_›] at this; exact hK _ _ _ this

theorem OpS.sound (hS : Regime P main S) {i : Nat} {rest : List Nat} {o : Oper} {K : Env → List Deferred → LH → Prop} (ho : ops[i]? = some o)
    (hK : ∀ E ds h, K E ds h → S h (G (b.fr E ds (.inRegion ops rest :: k)) cs)) (x : OpS P S b cs ops o E ds h K) : S h (G (b.fr E ds (.inRegion ops (i :: rest) :: k)) cs) := by
  obtain ⟨hnd, x⟩ := x
  split at x
  · refine hS.op ho ‹_› hnd (wps_mono ?_ _ _ x)
    intro out h' y
    rcases out with a | v
    · cases a with
      | value v => exact hK _ _ _ y
      | skip => exact hK _ _ _ y
      | enter f args =>
        refine y _ (fun v h'' hv => ?_) (fun ch h'' hp => hp _ _)
        rw [finish_fr, ho]; exact hK _ _ _ hv
      | round l f t a bd =>
        refine y _ (fun v h'' hv => ?_) (fun ch h'' hp => hp _ _)
        rw [finish_fr, ho]; exact hK _ _ _ hv
      | defer d => exact hK _ _ _ y
      | _ => exact y
    · exact y _ _
  · rename_i hw; exact hS.opNot ho (by simpa [arr] using hw) (hK _ _ _ x)

/-- Operations in the order of the text. -/
def WL (P : Program) (S : LH → Goroutine → Prop) (b : Base) (cs : List Frame) (ops : Array Oper) (Fin : Env → List Deferred → LH → Prop) : List Oper → Env → List Deferred → LH → Prop
  | [] => Fin
  | o :: os => fun E ds h => OpS P S b cs ops o E ds h (WL P S b cs ops Fin os)

theorem WL.sound (hS : Regime P main S) : ∀ (os : List Oper) (idxs : List Nat) (E : Env) (ds : List Deferred) (h : LH), idxs.map (fun i => ops[i]?) = os.map some →
    WL P S b cs ops (fun E ds h => S h (G (b.fr E ds k) cs)) os E ds h → S h (G (b.fr E ds (.inRegion ops idxs :: k)) cs) := by
  intro os
  induction os with
  | nil =>
    intro idxs E ds h hm x
    obtain rfl : idxs = [] := by simpa using hm
    exact hS.regionEnd x
  | cons o os ih =>
    intro idxs E ds h hm x
    cases idxs with
    | nil => simp at hm
    | cons i idxs =>
      simp only [List.map_cons, List.cons.injEq] at hm
      exact OpS.sound hS hm.1 (fun E ds h => ih idxs E ds h hm.2) x

theorem Regime.regionW (hS : Regime P main S) {id : Nat} {l : List Oper} (x : WL P S b cs l.toArray (fun E ds h => S h (G (b.fr E ds k) cs)) l E ds h) : S h (G (b.fr E ds (.code (.region id l.toArray false) :: k)) cs) := by
  refine hS.region (WL.sound hS l _ E ds h ?_ x)
  apply List.ext_getElem
  · simp
  · intro i h1 h2
    simp only [List.length_map, List.length_range, List.size_toArray] at h1 h2
    simp [h2]

/-! ### regions that draw their order -/

/-- Operations in whatever order; 'hd': those that may turn what is known (all others only add to it). -/
def Any (P : Program) (S : LH → Goroutine → Prop) (b : Base) (cs : List Frame) (ops : Array Oper) (hd : List Nat) (Fin : Env → List Deferred → LH → Prop) : Nat → Array Bool → Env → List Deferred → LH → Prop
  | 0, listed, E, ds, h => Region.ready .any ops listed = [] ∧ Fin E ds h
  | fuel + 1, listed, E, ds, h => (Region.ready .any ops listed = [] → Fin E ds h) ∧
      ∀ i ∈ Region.ready .any ops listed, ∀ o, ops[i]? = some o → OpS P S b cs ops o E ds h fun E' ds' h' => (i ∉ hd → Ext h h' ∧ ds' = ds) ∧ Any P S b cs ops hd Fin fuel (listed.setIfInBounds i true) E' ds' h'

theorem Any.sound (hS : Regime P main S) {hd : List Nat} : ∀ (fuel t : Nat) (listed : Array Bool) (E : Env) (ds : List Deferred) (h : LH),
    Any P S b cs ops hd (fun E ds h => S h (G (b.fr E ds k) cs)) fuel listed E ds h → S h (G (b.fr E ds (.inRegion ops (Region.linearise.go .any ops fuel t listed []) :: k)) cs) := by
  intro fuel
  induction fuel with
  | zero => intro t listed E ds h x; simpa [Region.linearise.go] using hS.regionEnd x.2
  | succ fuel ih =>
    intro t listed E ds h x
    obtain ⟨h₀, h₁⟩ := x
    simp only [Region.linearise.go]
    change S h (G (b.fr E ds (.inRegion ops (match (Region.ready .any ops listed)[t % (Region.ready .any ops listed).length]? with
      | some i => Region.linearise.go .any ops fuel (t / (Region.ready .any ops listed).length) (listed.setIfInBounds i true) [i]
      | none => [].reverse) :: k)) cs)
    cases hi : (Region.ready .any ops listed)[t % (Region.ready .any ops listed).length]? with
    | none =>
      have hnil : Region.ready .any ops listed = [] := by
        cases hr : Region.ready .any ops listed with
        | nil => rfl
        | cons x xs =>
          rw [hr] at hi
          have hlt : t % (x :: xs).length < (x :: xs).length := Nat.mod_lt _ (by simp)
          simp at hi
          simp at hlt
          omega
      simpa using hS.regionEnd (h₀ hnil)
    | some i =>
      simp only []
      rw [linearise_go_acc, List.reverse_singleton, List.singleton_append]
      have hm := List.mem_of_getElem? hi
      obtain ⟨_, o, ho, _⟩ := mem_ready.1 hm
      exact OpS.sound hS ho (fun E ds h y => ih _ _ E ds h y.2) (h₁ i hm o ho)

theorem Regime.regionA (hS : Regime P main S) {id : Nat} {l : List Oper} (hm : P.follows .mixedOrders = true) (hd : List Nat)
    (x : Any P S b cs l.toArray hd (fun E ds h => S h (G (b.fr E ds k) cs)) l.length (Array.replicate l.length false) E ds h) : S h (G (b.fr E ds (.code (.region id l.toArray true) :: k)) cs) := by
  refine hS.regionDraw fun t => ?_
  simp only [Region.schedule, hm, Bool.true_or, if_true]
  exact Any.sound hS _ t _ E ds h (by simpa [Region.linearise] using x)

/-- The operation only reads: whatever is known besides, it yields v and leaves memory alone. -/
def Pop (P : Program) (n : Nat) (E : Env) (h : LH) (op : Op) (ty : TypeId) (v : Value) : Prop :=
  ∀ (dst : Option Tmp) (pos : String) (after : Array Edge) (guard : Option (Nat × Bool)) (h' : LH), Ext h h' → wps P (execOp (ev n E) ⟨dst, op, ty, pos, after, guard⟩) h' (fun out h'' => h'' = h' ∧ out = .ok (.value v))

def Op.isDefer : Op → Bool
  | .defer _ => true
  | _ => false

theorem OpS.pop {dst : Option Tmp} {op : Op} {ty : TypeId} {pos : String} {after : Array Edge} {v : Value} {K : Env → List Deferred → LH → Prop} (hp : Pop P b.n E h op ty v) (hd : Op.isDefer op = false) (hk : K (putE E dst v) ds h) :
    OpS P S b cs ops ⟨dst, op, ty, pos, after, none⟩ E ds h K := by
  refine ⟨.inr (fun c e => by rw [show op = _ from e] at hd; exact absurd hd (by simp [Op.isDefer])), ?_⟩
  rw [if_pos (by rfl)]
  refine wps_mono ?_ _ _ (hp dst pos after none h (Ext.refl h))
  rintro out h'' ⟨rfl, rfl⟩
  exact hk

/-- .. under a guard that says yes. -/
theorem OpS.popG {dst : Option Tmp} {op : Op} {ty : TypeId} {pos : String} {after : Array Edge} {g : Nat × Bool} {v : Value} {K : Env → List Deferred → LH → Prop} (hw : Region.wanted ⟨dst, op, ty, pos, after, some g⟩ (yielded ops (arr b.n E)) = true)
    (hp : Pop P b.n E h op ty v) (hd : Op.isDefer op = false) (hk : K (putE E dst v) ds h) : OpS P S b cs ops ⟨dst, op, ty, pos, after, some g⟩ E ds h K := by
  refine ⟨.inr (fun c e => by rw [show op = _ from e] at hd; exact absurd hd (by simp [Op.isDefer])), ?_⟩
  rw [if_pos hw]
  refine wps_mono ?_ _ _ (hp dst pos after (some g) h (Ext.refl h))
  rintro out h'' ⟨rfl, rfl⟩
  exact hk

/-- .. a guard that says no. -/
theorem OpS.not {o : Oper} {K : Env → List Deferred → LH → Prop} (hd : Op.isDefer o.op = false) (hw : Region.wanted o (yielded ops (arr b.n E)) = false) (hk : K (putE E o.dst undef) ds h) : OpS P S b cs ops o E ds h K := by
  refine ⟨.inr (fun c e => by rw [e] at hd; exact absurd hd (by simp [Op.isDefer])), ?_⟩
  rw [if_neg (by simp [hw])]
  exact hk

/-- What the guard (j, want) says where temporary d (j's own) holds the bool t. -/
theorem wanted_of {dst : Option Tmp} {op : Op} {ty : TypeId} {pos : String} {after : Array Edge} {j : Nat} {want t : Bool} {d n : Nat} (hj : (ops[j]?).bind (·.dst) = some d) (hd : d < n) (he : E d = .bool t) :
    Region.wanted ⟨dst, op, ty, pos, after, some (j, want)⟩ (yielded ops (arr n E)) = (t == want) := by
  have : (arr n E)[d]? = some (.bool t) := by simp [arr, hd, he]
  simp [Region.wanted, yielded, hj, this]

theorem wantedT {dst : Option Tmp} {op : Op} {ty : TypeId} {pos : String} {after : Array Edge} {j : Nat} {want : Bool} {d n : Nat} (hj : (ops[j]?).bind (·.dst) = some d) (hd : d < n) (he : E d = .bool want) :
    Region.wanted ⟨dst, op, ty, pos, after, some (j, want)⟩ (yielded ops (arr n E)) = true := by rw [wanted_of hj hd he]; simp
theorem wantedF {dst : Option Tmp} {op : Op} {ty : TypeId} {pos : String} {after : Array Edge} {j : Nat} {want : Bool} {d n : Nat} (hj : (ops[j]?).bind (·.dst) = some d) (hd : d < n) (he : E d = .bool (!want)) :
    Region.wanted ⟨dst, op, ty, pos, after, some (j, want)⟩ (yielded ops (arr n E)) = false := by rw [wanted_of hj hd he]; cases want <;> rfl

/-- The operations that wait for operation i, through others or not. -/
def waitD (ops : Array Oper) (i : Nat) : List Nat :=
  (List.range ops.size).foldl (fun D j => match ops[j]? with
    | some oj => if oj.after.toList.any (fun e => Region.binds .any e && (e.on == i || D.contains e.on)) then j :: D else D
    | none => D) []

/-- May operation i be taken first? -/
def takeOk (ops : Array Oper) (hd : List Nat) (listed : Array Bool) (i : Nat) : Bool :=
  match ops[i]? with
  | none => false
  | some oi => (Region.ready .any ops listed).contains i && !Op.isDefer oi.op &&
      ((waitD ops i).all fun d => listed.getD d true == false && d != i && match ops[d]? with
        | some od => od.after.toList.any fun e => Region.binds .any e && (e.on == i || (waitD ops i).contains e.on)
        | none => false) &&
      (List.range ops.size).all fun j =>
      match ops[j]? with
      | none => true
      | some oj => j == i || listed.getD j true || (waitD ops i).contains j ||
          (oi.apart ops oj && !hd.contains j && (match oj.op with | .select .. => false | _ => true) )

theorem ev_putE {n : Nat} {d : Option Tmp} {v : Value} {x : Operand} (hx : ∀ t, d = some t → x ≠ .tmp t) : ev n (putE E d v) x = ev n E x := by
  cases d with
  | none => rfl
  | some t =>
    cases x with
    | tmp u =>
      have : u ≠ t := fun e => hx t rfl (by rw [e])
      simp [ev, putE, upd, this]
    | _ => rfl

theorem execOp_putE {n : Nat} (o : Oper) (hs : ∀ cs b, o.op ≠ .select cs b) {d : Option Tmp} {v : Value} (hx : ∀ t, d = some t → t ∉ o.looksAt ops) : execOp (ev n (putE E d v)) o = execOp (ev n E) o :=
  execOp_congr o hs fun x hm => ev_putE fun t ht hxt => hx t ht (by
    subst hxt
    exact List.mem_append_left _ (List.mem_filterMap.2 ⟨.tmp t, by simpa using hm, rfl⟩))

theorem wanted_putE {n : Nat} (o : Oper) {d : Option Tmp} {v : Value} (hx : ∀ t, d = some t → t ∉ o.looksAt ops) : Region.wanted o (yielded ops (arr n (putE E d v))) = Region.wanted o (yielded ops (arr n E)) := by
  cases d with
  | none => rfl
  | some d =>
    unfold Region.wanted
    cases hg : o.guard with
    | none => rfl
    | some gw =>
      obtain ⟨g, want⟩ := gw
      have hy : yielded ops (arr n (putE E (some d) v)) g = yielded ops (arr n E) g := by
        unfold yielded
        cases ht : (ops[g]?).bind (·.dst) with
        | none => rfl
        | some t =>
          have hne : t ≠ d := fun e => hx d rfl (by subst e; simp [Oper.looksAt, hg, ht])
          have : (arr n (putE E (some d) v))[t]? = (arr n E)[t]? := by
            by_cases htn : t < n <;> simp [arr, putE, upd, htn, hne]
          simp only [Option.bind_some, this]
      simp only [hy]

theorem putE_comm {x y : Option Tmp} (v u : Value) (h : ∀ d, x = some d → y ≠ some d) : putE (putE E x v) y u = putE (putE E y u) x v := by
  cases x with
  | none => rfl
  | some d =>
    cases y with
    | none => rfl
    | some e =>
      have hne : d ≠ e := fun q => h d rfl (by rw [q])
      funext i
      simp only [putE, upd]
      by_cases h1 : i = d <;> by_cases h2 : i = e <;> simp_all

def PopW (P : Program) (n : Nat) (ops : Array Oper) (E : Env) (h : LH) (o : Oper) (v : Value) : Prop :=
  (Region.wanted o (yielded ops (arr n E)) = true ∧ ∀ h', Ext h h' → wps P (execOp (ev n E) o) h' (fun out h'' => h'' = h' ∧ out = .ok (.value v))) ∨ (Region.wanted o (yielded ops (arr n E)) = false ∧ v = undef)

theorem take_spec {hd : List Nat} {i : Nat} {oi : Oper} {listed : Array Bool} (hi : ops[i]? = some oi) (hok : takeOk ops hd listed i = true) :
    i ∈ Region.ready .any ops listed ∧ Op.isDefer oi.op = false ∧ ∀ j oj, ops[j]? = some oj → j ≠ i → j ∈ Region.ready .any ops listed →
      j ∉ waitD ops i ∧ oi.apart ops oj = true ∧ j ∉ hd ∧ ∀ cs b, oj.op ≠ .select cs b := by
  simp only [takeOk, hi, Bool.and_eq_true, List.contains_iff_mem, Bool.not_eq_true', List.all_eq_true, List.mem_range] at hok
  obtain ⟨⟨⟨h1, h2⟩, hD⟩, h3⟩ := hok
  refine ⟨h1, h2, fun j oj hj hne hr => ?_⟩
  obtain ⟨hl, o', ho', hed⟩ := mem_ready.1 hr
  obtain rfl : o' = oj := Option.some.inj (ho'.symm.trans hj)
  obtain ⟨hli, _⟩ := mem_ready.1 h1
  have unl : ∀ m, listed.getD m true = false → listed.getD m false = true → False := by
    intro m hm e
    by_cases hlt : m < listed.size
    · simp [hlt] at hm e
      rw [hm] at e; cases e
    · simp [hlt] at e
  have hnD : j ∉ waitD ops i := by
    intro hm
    have := hD j hm
    simp only [hj, beq_iff_eq, bne_iff_ne, ne_eq, List.any_eq_true, Array.mem_toList_iff, Bool.and_eq_true, Bool.or_eq_true] at this
    obtain ⟨_, e, he, hb, hon⟩ := this
    have hlis := hed e he hb
    rcases hon with hon | hon
    · rw [hon] at hlis; exact unl i (by simpa using hli) hlis
    · have := (hD e.on (by simpa using hon)).1.1
      exact unl e.on (by simpa using this) hlis
  have := h3 j (Array.getElem?_eq_some_iff.1 hj).1
  have hl' : listed.getD j true = false := by simpa using hl
  simp only [hj, Bool.or_eq_true, beq_iff_eq, hne, false_or, hl', Bool.false_eq_true, Bool.and_eq_true, Bool.not_eq_true', List.contains_iff_mem, hnD] at this
  obtain ⟨⟨h4, h5⟩, h6⟩ := this
  refine ⟨hnD, h4, fun hm => by simp [hm] at h5, fun cs b e => by simp [e] at h6⟩

theorem take_mono {hd : List Nat} {i j : Nat} {oi oj : Oper} {listed : Array Bool} (hi : ops[i]? = some oi) (hoj : ops[j]? = some oj) (hok : takeOk ops hd listed i = true) (hne : i ≠ j) (hr : j ∈ Region.ready .any ops listed) : takeOk ops hd (listed.setIfInBounds j true) i = true := by
  have hnD := ((take_spec hi hok).2.2 j oj hoj (Ne.symm hne) hr).1
  simp only [takeOk, hi, Bool.and_eq_true, List.contains_iff_mem, Bool.not_eq_true', List.all_eq_true, List.mem_range] at hok ⊢
  obtain ⟨⟨⟨h1, h2⟩, hD⟩, h3⟩ := hok
  refine ⟨⟨⟨ready_mono h1 hne, h2⟩, fun d hd => ?_⟩, fun m hm => ?_⟩
  · have := hD d hd
    have hjd : j ≠ d := fun e => hnD (e ▸ hd)
    rw [getD_set_ne true hjd]
    exact this
  · have := h3 m hm
    revert this
    cases ops[m]? with
    | none => exact fun x => x
    | some om =>
      simp only [Bool.or_eq_true]
      rintro (((h | h) | h) | h)
      · exact .inl (.inl (.inl h))
      · refine .inl (.inl (.inr ?_))
        by_cases e : j = m
        · subst e
          by_cases hl : j < listed.size
          · simp [hl]
          · simp [hl]
        · rw [getD_set_ne true e]; exact h
      · exact .inl (.inr h)
      · exact .inr h

theorem PopW.later {n : Nat} {h h' : LH} {oi oj : Oper} {v w : Value} (hs : ∀ cs b, oi.op ≠ .select cs b) (hap : oi.apart ops oj = true) (hx : Ext h h') (hp : PopW P n ops E h oi v) : PopW P n ops (putE E oj.dst w) h' oi v := by
  obtain ⟨_, _, h3⟩ := Oper.apart_spec hap
  unfold PopW
  rw [wanted_putE oi h3, execOp_putE oi hs h3]
  exact hp.imp (fun ⟨a, b⟩ => ⟨a, fun h'' hx' => b h'' (hx.trans hx')⟩) id

theorem Any.take {hd : List Nat} {Fin : Env → List Deferred → LH → Prop} {i : Nat} {oi : Oper} {v : Value} (hi : ops[i]? = some oi) (hsi : ∀ cs b, oi.op ≠ .select cs b) : ∀ (fuel : Nat) (listed : Array Bool) (E : Env) (ds : List Deferred) (h : LH),
    takeOk ops hd listed i = true → PopW P b.n ops E h oi v → Any P S b cs ops hd Fin fuel (listed.setIfInBounds i true) (putE E oi.dst v) ds h → Any P S b cs ops hd Fin (fuel + 1) listed E ds h := by
  intro fuel
  induction fuel with
  | zero =>
    intro listed E ds h hok hp x
    obtain ⟨hr, hdf, hsp⟩ := take_spec hi hok
    refine ⟨(fun e => by rw [e] at hr; cases hr), fun j hj oj hoj => ?_⟩
    by_cases hij : j = i
    · subst hij
      obtain rfl : oj = oi := Option.some.inj (hoj.symm.trans hi)
      refine ⟨.inr (fun c e => by rw [e] at hdf; cases hdf), ?_⟩
      rcases hp with ⟨hw, hp⟩ | ⟨hw, rfl⟩
      · rw [if_pos hw]
        refine wps_mono ?_ _ _ (hp h (Ext.refl h))
        rintro out h'' ⟨rfl, rfl⟩
        exact ⟨fun _ => ⟨Ext.refl _, rfl⟩, x⟩
      · rw [if_neg (by simp [hw])]
        exact ⟨fun _ => ⟨Ext.refl _, rfl⟩, x⟩
    · have := ready_mono hj hij
      rw [x.1] at this; cases this
  | succ f ih =>
    intro listed E ds h hok hp x
    obtain ⟨hr, hdf, hsp⟩ := take_spec hi hok
    refine ⟨(fun e => by rw [e] at hr; cases hr), fun j hj oj hoj => ?_⟩
    by_cases hij : j = i
    · subst hij
      obtain rfl : oj = oi := Option.some.inj (hoj.symm.trans hi)
      refine ⟨.inr (fun c e => by rw [e] at hdf; cases hdf), ?_⟩
      rcases hp with ⟨hw, hp⟩ | ⟨hw, rfl⟩
      · rw [if_pos hw]
        refine wps_mono ?_ _ _ (hp h (Ext.refl h))
        rintro out h'' ⟨rfl, rfl⟩
        exact ⟨fun _ => ⟨Ext.refl _, rfl⟩, x⟩
      · rw [if_neg (by simp [hw])]
        exact ⟨fun _ => ⟨Ext.refl _, rfl⟩, x⟩
    · have hj' := ready_mono (i := i) hj hij
      obtain ⟨hl, o', ho', hed⟩ := mem_ready.1 hj
      obtain rfl : o' = oj := Option.some.inj (ho'.symm.trans hoj)
      obtain ⟨_, hap, hnh, hsj⟩ := hsp j o' hoj hij hj
      obtain ⟨ha1, ha2, ha3⟩ := Oper.apart_spec hap
      have y := x.2 j hj' o' hoj
      have hcomm : (listed.setIfInBounds i true).setIfInBounds j true = (listed.setIfInBounds j true).setIfInBounds i true := Array.setIfInBounds_comm _ _ (fun e => hij e.symm)
      have key : ∀ (w : Value) (ds' : List Deferred) (h' : LH), ((j ∉ hd → Ext h h' ∧ ds' = ds) ∧ Any P S b cs ops hd Fin f ((listed.setIfInBounds i true).setIfInBounds j true) (putE (putE E oi.dst v) o'.dst w) ds' h') →
          ((j ∉ hd → Ext h h' ∧ ds' = ds) ∧ Any P S b cs ops hd Fin (f + 1) (listed.setIfInBounds j true) (putE E o'.dst w) ds' h') := by
        rintro w ds' h' ⟨z1, z2⟩
        refine ⟨z1, ih _ _ _ _ (take_mono hi hoj hok (fun e => hij e.symm) hj) (hp.later hsi hap (z1 hnh).1) ?_⟩
        rw [← hcomm, ← putE_comm v w ha2]; exact z2
      refine ⟨y.1, ?_⟩
      have y2 := y.2
      rw [wanted_putE o' ha1, execOp_putE o' hsj ha1] at y2
      split
      · rw [if_pos ‹_›] at y2
        refine wps_mono ?_ _ _ y2
        intro out h' z
        rcases out with a | p
        · cases a with
          | value w => exact key w ds h' z
          | skip => exact key undef ds h' z
          | enter fx args => exact fun c h1 h2 => z c (fun u h'' hu => h1 u h'' (key u ds h'' hu)) h2
          | round l fx t a bd => exact fun c h1 h2 => z c (fun u h'' hu => h1 u h'' (key u ds h'' hu)) h2
          | defer d => exact key undef (d :: ds) h' z
          | _ => exact z
        · exact z
      · rw [if_neg ‹_›] at y2
        exact key undef ds h y2

/-- .. an operation that does not look at memory may be taken first beside those that turn it, too. -/
theorem Any.takeM {hd : List Nat} {Fin : Env → List Deferred → LH → Prop} {i : Nat} {oi : Oper} {v : Value} (hi : ops[i]? = some oi) (hsi : ∀ cs b, oi.op ≠ .select cs b) : ∀ (fuel : Nat) (listed : Array Bool) (E : Env) (ds : List Deferred) (h : LH),
    takeOk ops [] listed i = true → (∀ h, PopW P b.n ops E h oi v) → Any P S b cs ops hd Fin fuel (listed.setIfInBounds i true) (putE E oi.dst v) ds h → Any P S b cs ops hd Fin (fuel + 1) listed E ds h := by
  intro fuel
  induction fuel with
  | zero =>
    intro listed E ds h hok hp x
    obtain ⟨hr, hdf, hsp⟩ := take_spec hi hok
    refine ⟨(fun e => by rw [e] at hr; cases hr), fun j hj oj hoj => ?_⟩
    by_cases hij : j = i
    · subst hij
      obtain rfl : oj = oi := Option.some.inj (hoj.symm.trans hi)
      refine ⟨.inr (fun c e => by rw [e] at hdf; cases hdf), ?_⟩
      rcases hp h with ⟨hw, hp⟩ | ⟨hw, rfl⟩
      · rw [if_pos hw]
        refine wps_mono ?_ _ _ (hp h (Ext.refl h))
        rintro out h'' ⟨rfl, rfl⟩
        exact ⟨fun _ => ⟨Ext.refl _, rfl⟩, x⟩
      · rw [if_neg (by simp [hw])]
        exact ⟨fun _ => ⟨Ext.refl _, rfl⟩, x⟩
    · have := ready_mono hj hij
      rw [x.1] at this; cases this
  | succ f ih =>
    intro listed E ds h hok hp x
    obtain ⟨hr, hdf, hsp⟩ := take_spec hi hok
    refine ⟨(fun e => by rw [e] at hr; cases hr), fun j hj oj hoj => ?_⟩
    by_cases hij : j = i
    · subst hij
      obtain rfl : oj = oi := Option.some.inj (hoj.symm.trans hi)
      refine ⟨.inr (fun c e => by rw [e] at hdf; cases hdf), ?_⟩
      rcases hp h with ⟨hw, hp⟩ | ⟨hw, rfl⟩
      · rw [if_pos hw]
        refine wps_mono ?_ _ _ (hp h (Ext.refl h))
        rintro out h'' ⟨rfl, rfl⟩
        exact ⟨fun _ => ⟨Ext.refl _, rfl⟩, x⟩
      · rw [if_neg (by simp [hw])]
        exact ⟨fun _ => ⟨Ext.refl _, rfl⟩, x⟩
    · have hj' := ready_mono (i := i) hj hij
      obtain ⟨hl, o', ho', hed⟩ := mem_ready.1 hj
      obtain rfl : o' = oj := Option.some.inj (ho'.symm.trans hoj)
      obtain ⟨_, hap, hnh, hsj⟩ := hsp j o' hoj hij hj
      obtain ⟨ha1, ha2, ha3⟩ := Oper.apart_spec hap
      have y := x.2 j hj' o' hoj
      have hcomm : (listed.setIfInBounds i true).setIfInBounds j true = (listed.setIfInBounds j true).setIfInBounds i true := Array.setIfInBounds_comm _ _ (fun e => hij e.symm)
      have key : ∀ (w : Value) (ds' : List Deferred) (h' : LH), ((j ∉ hd → Ext h h' ∧ ds' = ds) ∧ Any P S b cs ops hd Fin f ((listed.setIfInBounds i true).setIfInBounds j true) (putE (putE E oi.dst v) o'.dst w) ds' h') →
          ((j ∉ hd → Ext h h' ∧ ds' = ds) ∧ Any P S b cs ops hd Fin (f + 1) (listed.setIfInBounds j true) (putE E o'.dst w) ds' h') := by
        rintro w ds' h' ⟨z1, z2⟩
        refine ⟨z1, ih _ _ _ _ (take_mono hi hoj hok (fun e => hij e.symm) hj) (fun h'' => (hp h'').later hsi hap (Ext.refl h'')) ?_⟩
        rw [← hcomm, ← putE_comm v w ha2]; exact z2
      refine ⟨y.1, ?_⟩
      have y2 := y.2
      rw [wanted_putE o' ha1, execOp_putE o' hsj ha1] at y2
      split
      · rw [if_pos ‹_›] at y2
        refine wps_mono ?_ _ _ y2
        intro out h' z
        rcases out with a | p
        · cases a with
          | value w => exact key w ds h' z
          | skip => exact key undef ds h' z
          | enter fx args => exact fun c h1 h2 => z c (fun u h'' hu => h1 u h'' (key u ds h'' hu)) h2
          | round l fx t a bd => exact fun c h1 h2 => z c (fun u h'' hu => h1 u h'' (key u ds h'' hu)) h2
          | defer d => exact key undef (d :: ds) h' z
          | _ => exact z
        · exact z
      · rw [if_neg ‹_›] at y2
        exact key undef ds h y2

/-- All that is ready is one operation. -/
theorem Any.one {hd : List Nat} {Fin : Env → List Deferred → LH → Prop} {fuel i : Nat} {o : Oper} {listed : Array Bool} (hr : Region.ready .any ops listed = [i]) (ho : ops[i]? = some o)
    (x : OpS P S b cs ops o E ds h fun E' ds' h' => (i ∉ hd → Ext h h' ∧ ds' = ds) ∧ Any P S b cs ops hd Fin fuel (listed.setIfInBounds i true) E' ds' h') : Any P S b cs ops hd Fin (fuel + 1) listed E ds h := by
  refine ⟨(fun e => by rw [e] at hr; cases hr), fun j hj oj hoj => ?_⟩
  rw [hr] at hj
  obtain rfl : j = i := by simpa using hj
  obtain rfl : oj = o := Option.some.inj (hoj.symm.trans ho)
  exact x

theorem Any.done {hd : List Nat} {Fin : Env → List Deferred → LH → Prop} {fuel : Nat} {listed : Array Bool} (hr : Region.ready .any ops listed = []) (x : Fin E ds h) : Any P S b cs ops hd Fin fuel listed E ds h := by
  cases fuel with
  | zero => exact ⟨hr, x⟩
  | succ f => exact ⟨fun _ => x, fun i hi => by rw [hr] at hi; cases hi⟩
end
end Go.SL
/-
  The calculus of local heaps, part four: the rules of single operations: those that only read ('Pop'), and those that make or write.
-/
namespace Go.SL
open Go.Conc (G)

/-! ### reading off states: small relations for a search -/

def Look (E : Env) (t : Nat) (v : Value) : Prop := E t = v
def Nth (l : List Value) (i : Nat) (v : Value) : Prop := l[i]? = some v
def Ev (n : Nat) (E : Env) (x : Operand) (v : Value) : Prop := ev n E x = v
def HG (h : LH) (b : Nat) (o : Obj) : Prop := h.get b = some o
def Own (h : LH) (b : Nat) : Prop := h.own b

section
variable {P : Program} {n : Nat} {E : Env} {h : LH} {l : List Value}
theorem Nth.hit {v : Value} : Nth (v :: l) 0 v := rfl
theorem Nth.miss {i : Nat} {x v : Value} (p : Nth l i v) : Nth (x :: l) (i + 1) v := p
theorem Look.hit {d : Nat} {v : Value} : Look (putE E (some d) v) d v := by simp [Look, putE, upd]
theorem Look.miss {d t : Nat} {v w : Value} (p : Look E t v) (hne : t ≠ d) : Look (putE E (some d) w) t v := by simpa [Look, putE, upd, hne] using p
theorem Look.skip {t : Nat} {v w : Value} (p : Look E t v) : Look (putE E none w) t v := p
theorem Look.base {t : Nat} {v : Value} (p : Nth l t v) : Look (ofL l) t v := by simp only [Look, ofL, List.getD, Nth] at *; rw [p]; rfl
theorem Ev.tmp {t : Nat} {v : Value} (p : Look E t v) (ht : t < n) : Ev n E (.tmp t) v := by simp only [Ev, ev, if_pos ht]; exact p
theorem Ev.const {v : Value} : Ev n E (.const v) v := rfl
theorem Ev.global {g : Nat} : Ev n E (.global g) (.pointer (some ⟨g, 0, none⟩)) := rfl
theorem Ev.func {f : FuncId} : Ev n E (.func f) (.func (.func f) #[] #[]) := rfl
theorem HG.hit {b : Nat} {o : Obj} : HG (h.upd b o) b o := by simp [HG, LH.upd]
theorem HG.miss {b c : Nat} {o o' : Obj} (p : HG h b o) (hn : h.get c = none) : HG (h.upd c o') b o := by
  have : b ≠ c := fun e => by subst e; rw [HG, hn] at p; cases p
  simpa [HG, LH.upd, this] using p
theorem HG.ne {b c : Nat} {o o' : Obj} (p : HG h b o) (hne : b ≠ c) : HG (h.upd c o') b o := by simpa [HG, LH.upd, hne] using p
theorem HG.ext {h' : LH} {b : Nat} {o : Obj} (p : HG h b o) (x : Ext h h') : HG h' b o := x.get _ _ p
theorem Own.hit {b : Nat} {o : Obj} : Own (h.upd b o) b := .inr rfl
theorem Own.miss {b c : Nat} {o : Obj} (p : Own h b) : Own (h.upd c o) b := .inl p
theorem Own.ext {h' : LH} {b : Nat} (p : Own h b) (x : Ext h h') : Own h' b := x.own _ p
theorem ne_of_fresh {b c : Nat} {o : Obj} (p : HG h b o) (hn : h.get c = none) : b ≠ c := fun e => by subst e; rw [HG, hn] at p; cases p

theorem gT {ops : Array Oper} {dst : Option Tmp} {op : Op} {ty : TypeId} {pos : String} {after : Array Edge} {j : Nat} {want t : Bool} {d : Nat} (hj : (ops[j]?).bind (·.dst) = some d) (hd : d < n) (he : Look E d (.bool t)) (ht : t = want) :
    Region.wanted ⟨dst, op, ty, pos, after, some (j, want)⟩ (yielded ops (arr n E)) = true := by subst ht; exact wantedT hj hd he
theorem gF {ops : Array Oper} {dst : Option Tmp} {op : Op} {ty : TypeId} {pos : String} {after : Array Edge} {j : Nat} {want t : Bool} {d : Nat} (hj : (ops[j]?).bind (·.dst) = some d) (hd : d < n) (he : Look E d (.bool t)) (ht : t = !want) :
    Region.wanted ⟨dst, op, ty, pos, after, some (j, want)⟩ (yielded ops (arr n E)) = false := by subst ht; exact wantedF hj hd he

/-! ### the table of types -/
def szB (P : Program) (t : TypeId) : Option Nat := (P.info? t).map (·.size)
def byB (P : Program) (t : TypeId) : Option Nat := (P.info? t).map (·.bytes)
def zrB (P : Program) (t : TypeId) : Option Value := (P.info? t).bind (·.zero)
def agD : TypeDesc → Bool
  | .struct _ | .array _ _ => true
  | _ => false
def agB (P : Program) (t : TypeId) : Option Bool := (P.underlying t).map agD
def fdB (P : Program) (t : TypeId) (i : Nat) : Option (TypeId × Nat) :=
  match P.underlying t with
  | some (.struct fs) => (fs[i]?).map fun f => (f.type, f.offset)
  | _ => none

/-! ### terms -/
theorem wps_bind' {α β : Type} {s : Sem α} {f : α → Sem β} {K : Out β → LH → Prop} (x : wps P s h (fun o h' => match o with | .ok a => wps P (f a) h' K | .panic v => K (.panic v) h')) : wps P (s >>= f) h K := wps_bind f s h x
theorem wps_pure {α : Type} {a : α} {K : Out α → LH → Prop} (x : K (.ok a) h) : wps P (pure a : Sem α) h K := x
theorem wps_program {K : Out Program → LH → Prop} (x : K (.ok P) h) : wps P program h K := x
theorem wps_underlying {t : TypeId} {d : TypeDesc} {K : Out TypeDesc → LH → Prop} (ht : P.underlying t = some d) (x : K (.ok d) h) : wps P (underlying t) h K := by
  refine wps_bind' (wps_program ?_); simp only [ht]; exact x
theorem wps_typeInfo {t : TypeId} {i : TypeInfo} {K : Out TypeInfo → LH → Prop} (ht : P.info? t = some i) (x : K (.ok i) h) : wps P (typeInfo t) h K := by
  refine wps_bind' (wps_program ?_); simp only [ht]; exact x
theorem wps_sizeOf {t : TypeId} {s : Nat} {K : Out Nat → LH → Prop} (ht : szB P t = some s) (x : K (.ok s) h) : wps P (sizeOf t) h K := by
  unfold szB at ht
  cases hi : P.info? t with
  | none => simp [hi] at ht
  | some i => simp only [hi, Option.map_some, Option.some.injEq] at ht; subst ht; exact wps_bind' (wps_typeInfo hi x)
theorem wps_zeroValue {t : TypeId} {v : Value} {K : Out Value → LH → Prop} (ht : zrB P t = some v) (x : K (.ok v) h) : wps P (zeroValue t) h K := by
  unfold zrB at ht
  cases hi : P.info? t with
  | none => simp [hi] at ht
  | some i =>
    simp only [hi, Option.bind_some] at ht
    refine wps_bind' (wps_typeInfo hi ?_)
    simp only [ht]; exact x
theorem wps_isAgg {t : TypeId} {v : Bool} {K : Out Bool → LH → Prop} (ht : agB P t = some v) (x : K (.ok v) h) : wps P (isAgg t) h K := by
  unfold agB at ht
  cases hi : P.underlying t with
  | none => simp [hi] at ht
  | some d =>
    simp only [hi, Option.map_some, Option.some.injEq] at ht; subst ht
    refine wps_bind' (wps_underlying hi ?_)
    cases d <;> exact x
theorem wps_load {a : Addr} {c : Array Value} {e : TypeId} {f : Nat × Nat} {v : Value} {K : Out Value → LH → Prop} (hg : HG h a.block (.cells c e f)) (hs : a.spot = none) (hv : c[a.off]? = some v) (x : K (.ok v) h) : wps P (load a) h K :=
  ⟨rfl, c, e, f, v, hg, hs, hv, x⟩

theorem add_spot {a : Addr} (hs : a.spot = none) (n : Nat) : (a.add n).spot = none := by unfold Addr.add; split <;> simp [hs]
theorem add_off {a : Addr} (n : Nat) : (a.add n).off = a.off + n := by unfold Addr.add; split <;> simp_all
theorem add_block' {a : Addr} (n : Nat) : (a.add n).block = a.block := by unfold Addr.add; split <;> rfl
theorem add_eq {a : Addr} (hs : a.spot = none) (n : Nat) : a.add n = ⟨a.block, a.off + n, none⟩ := by
  obtain ⟨b, o, s⟩ := a; simp only at hs; subst hs
  unfold Addr.add; split
  · simp_all
  · rfl

theorem wps_loadCellsFrom {a : Addr} {c : Array Value} {e : TypeId} {f : Nat × Nat} (hg : HG h a.block (.cells c e f)) (hs : a.spot = none) : ∀ (m i : Nat) (acc : Array Value) (K : Out (Array Value) → LH → Prop),
    a.off + i + m ≤ c.size → K (.ok (acc ++ c.extract (a.off + i) (a.off + i + m))) h → wps P (loadCellsFrom a i m acc) h K := by
  intro m
  induction m with
  | zero =>
    intro i acc K _ x
    have : acc ++ c.extract (a.off + i) (a.off + i + 0) = acc := by simp; omega
    rw [this] at x
    exact x
  | succ m ih =>
    intro i acc K hle x
    have hlt : a.off + i < c.size := by omega
    refine wps_bind' (wps_load (v := c[a.off + i]) (by rw [add_block']; exact hg) (add_spot hs i) (by rw [add_off]; simp [hlt]) ?_)
    refine ih (i + 1) _ K (by omega) ?_
    have : acc.push c[a.off + i] ++ c.extract (a.off + (i + 1)) (a.off + (i + 1) + m) = acc ++ c.extract (a.off + i) (a.off + i + (m + 1)) := by
      apply Array.ext_getElem?
      intro j
      simp only [Array.getElem?_append, Array.getElem?_push, Array.getElem?_extract, Array.size_push]
      by_cases h1 : j < acc.size
      · have h2 : j < acc.size + 1 := by omega
        simp [h1, h2, Nat.ne_of_lt h1]
      · by_cases h2 : j = acc.size
        · subst h2; simp [hlt]; omega
        · have h3 : ¬ j < acc.size + 1 := by omega
          simp only [h1, h3, if_false]
          have e1 : a.off + (i + 1) + (j - (acc.size + 1)) = a.off + i + (j - acc.size) := by omega
          rw [e1]
          by_cases h4 : j - (acc.size + 1) < min (a.off + (i + 1) + m) c.size - (a.off + (i + 1))
          · rw [if_pos h4, if_pos (by omega)]
          · rw [if_neg h4, if_neg (by omega)]
    rw [this]; exact x

theorem wps_loadVarS {t : TypeId} {a : Addr} {c : Array Value} {e : TypeId} {f : Nat × Nat} {v : Value} {K : Out Value → LH → Prop} (ht : agB P t = some false) (hg : HG h a.block (.cells c e f)) (hs : a.spot = none) (hv : c[a.off]? = some v) (x : K (.ok v) h) :
    wps P (loadVar t a) h K := wps_bind' (wps_isAgg ht (wps_load hg hs hv x))
theorem wps_loadVarA {t : TypeId} {a : Addr} {c : Array Value} {e : TypeId} {f : Nat × Nat} {sz : Nat} {K : Out Value → LH → Prop} (ht : agB P t = some true) (hz : szB P t = some sz) (hg : HG h a.block (.cells c e f)) (hs : a.spot = none) (hle : a.off + sz ≤ c.size)
    (x : K (.ok (.agg (c.extract a.off (a.off + sz)))) h) : wps P (loadVar t a) h K := by
  refine wps_bind' (wps_isAgg ht ?_)
  refine wps_bind' (wps_sizeOf hz ?_)
  refine wps_bind' ?_
  refine wps_loadCellsFrom hg hs sz 0 #[] _ (by omega) ?_
  refine wps_pure ?_
  simpa using x

/-! ### operations that only read -/
theorem Pop.of {op : Op} {ty : TypeId} {v : Value} (x : ∀ dst pos after guard h', Ext h h' → wps P (execOp (ev n E) ⟨dst, op, ty, pos, after, guard⟩) h' (fun out h'' => h'' = h' ∧ out = .ok (.value v))) : Pop P n E h op ty v := x

theorem wps_v {s : Sem Value} {K : Out Next → LH → Prop} {v : Value} (x : wps P s h (fun o h' => h' = h ∧ o = .ok v)) (y : K (.ok (.value v)) h) : wps P (do pure (.value (← s))) h K := by
  refine wps_bind' (wps_mono ?_ _ _ x)
  rintro o h' ⟨rfl, rfl⟩
  exact wps_pure y

theorem Pop.move {x : Operand} {ty : TypeId} {v : Value} (hx : Ev n E x v) : Pop P n E h (.move x) ty v := by
  intro dst pos after guard h' _
  rw [← (show ev n E x = v from hx)]; exact ⟨rfl, rfl⟩
theorem Pop.assign {x : Operand} {ty : TypeId} {v : Value} (hx : Ev n E x v) : Pop P n E h (.assign x) ty v := by
  intro dst pos after guard h' _
  rw [← (show ev n E x = v from hx)]; exact ⟨rfl, rfl⟩
theorem Pop.pick {c x y : Operand} {ty : TypeId} {t : Bool} {v w : Value} (hc : Ev n E c (.bool t)) (hx : Ev n E x v) (hy : Ev n E y w) : Pop P n E h (.pick c x y) ty (if t then v else w) := by
  intro dst pos after guard h' _
  simp only [Ev] at hc hx hy
  simp only [execOp, hc, hx, hy, asBool]
  exact ⟨rfl, rfl⟩
theorem Pop.nilCheck {x : Operand} {ty : TypeId} {a : Addr} (hx : Ev n E x (.pointer (some a))) : Pop P n E h (.nilCheck x) ty (.pointer (some a)) := by
  intro dst pos after guard h' _
  simp only [Ev] at hx
  simp only [execOp, hx]
  exact ⟨rfl, rfl⟩

theorem Pop.loadS {t ty : TypeId} {x : Operand} {b off : Nat} {c : List Value} {e : TypeId} {f : Nat × Nat} {v : Value} (ht : agB P t = some false) (hx : Ev n E x (.pointer (some ⟨b, off, none⟩))) (hg : HG h b (.cells c.toArray e f)) (hv : Nth c off v) : Pop P n E h (.load t x) ty v := by
  intro dst pos after guard h' hxt
  simp only [Ev] at hx
  simp only [execOp, hx]
  refine wps_v (v := v) (wps_bind' (wps_pure ?_)) ⟨rfl, rfl⟩
  exact wps_loadVarS (c := c.toArray) ht (hg.ext hxt) rfl (by simpa [Nth] using hv) ⟨rfl, rfl⟩

/-- l' is the n values of l from off on. -/
def SubL (l : List Value) (off n : Nat) (l' : List Value) : Prop := l' = (l.drop off).take n ∧ off + n ≤ l.length
theorem SubL.drop {l l' : List Value} {x : Value} {off n : Nat} (p : SubL l off n l') : SubL (x :: l) (off + 1) n l' := ⟨by simpa using p.1, by have := p.2; simp; omega⟩
theorem SubL.take {l l' : List Value} {x : Value} {n : Nat} (p : SubL l 0 n l') : SubL (x :: l) 0 (n + 1) (x :: l') := ⟨by have := p.1; simp at this ⊢; exact this, by have := p.2; simp at this ⊢; omega⟩
theorem SubL.nil {l : List Value} : SubL l 0 0 [] := ⟨by simp, by simp⟩
theorem SubL.all {l : List Value} {n : Nat} (hn : l.length = n) : SubL l 0 n l := ⟨by simp [← hn], by simp [hn]⟩

theorem Pop.loadA {t ty : TypeId} {x : Operand} {b off sz : Nat} {c c' : List Value} {e : TypeId} {f : Nat × Nat} (ht : agB P t = some true) (hz : szB P t = some sz) (hx : Ev n E x (.pointer (some ⟨b, off, none⟩))) (hg : HG h b (.cells c.toArray e f)) (hv : SubL c off sz c') :
    Pop P n E h (.load t x) ty (.agg c'.toArray) := by
  intro dst pos after guard h' hxt
  simp only [Ev] at hx
  simp only [execOp, hx]
  refine wps_v (v := .agg c'.toArray) (wps_bind' (wps_pure ?_)) ⟨rfl, rfl⟩
  refine wps_loadVarA (c := c.toArray) ht hz (hg.ext hxt) rfl (by simpa using hv.2) ⟨rfl, ?_⟩
  simp only [List.extract_toArray, Out.ok.injEq, Value.agg.injEq]
  rw [hv.1]; simp [List.extract_eq_take_drop]

theorem Pop.fieldAddr {s ft ty : TypeId} {x : Operand} {b off i fo sz : Nat} (hf : fdB P s i = some (ft, fo)) (hz : szB P ft = some (sz + 1)) (hx : Ev n E x (.pointer (some ⟨b, off, none⟩))) :
    Pop P n E h (.fieldAddr s x i) ty (.pointer (some ⟨b, off + fo, none⟩)) := by
  intro dst pos after guard h' hxt
  simp only [Ev] at hx
  simp only [execOp, hx]
  refine wps_v (v := .pointer (some ⟨b, off + fo, none⟩)) ?_ ⟨rfl, rfl⟩
  unfold fdB at hf
  cases hu : P.underlying s with
  | none => simp [hu] at hf
  | some d =>
    rw [hu] at hf
    cases d <;> simp only [reduceCtorEq] at hf
    rename_i fs
    cases hfi : fs[i]? with
    | none => simp [hfi] at hf
    | some fd =>
      simp only [hfi, Option.map_some, Option.some.injEq, Prod.mk.injEq] at hf
      obtain ⟨rfl, rfl⟩ := hf
      refine wps_bind' (wps_underlying hu ?_)
      simp only [hfi]
      refine wps_bind' (wps_pure ?_)
      refine wps_bind' ?_
      unfold fieldPlace
      refine wps_bind' (wps_sizeOf hz ?_)
      dsimp only
      rw [if_neg (by omega)]
      refine wps_pure (wps_pure ⟨rfl, ?_⟩)
      rw [add_eq rfl]

/-! ### slices that are read -/
/-- v is a slice whose elements, of sz cells each, read xs. -/
def SlE (h : LH) (sz : Nat) (v : Value) (xs : List (List Value)) : Prop :=
  ∃ (a : Option Addr) (cap : Nat), v = .slice a xs.length cap ∧ xs.length ≤ cap ∧
    ∀ i cs, xs[i]? = some cs → ∃ b off c e f, a = some ⟨b, off, none⟩ ∧ HG h b (.cells c e f) ∧ cs.length = sz ∧ off + i * sz + sz ≤ c.size ∧ cs = (c.toList.drop (off + i * sz)).take sz

theorem SlE.ext {sz : Nat} {v : Value} {xs : List (List Value)} {h' : LH} (p : SlE h sz v xs) (x : Ext h h') : SlE h' sz v xs := by
  obtain ⟨a, cap, rfl, hc, he⟩ := p
  exact ⟨a, cap, rfl, hc, fun i cs hi => by
    obtain ⟨b, off, c, e, f, h1, h2, h3⟩ := he i cs hi
    exact ⟨b, off, c, e, f, h1, h2.ext x, h3⟩⟩

theorem SlE.miss {sz : Nat} {v : Value} {xs : List (List Value)} {c : Nat} {o : Obj} (p : SlE h sz v xs) (hn : h.get c = none) : SlE (h.upd c o) sz v xs := p.ext (Ext.upd (Ext.refl h) hn)

def elemPtr (v : Value) (sz i fo : Nat) : Value :=
  match v with
  | .slice (some a) _ _ => .pointer (some ⟨a.block, a.off + i * sz + fo, none⟩)
  | _ => undef

theorem Pop.indexAddr {t el ty : TypeId} {x ix : Operand} {v : Value} {sz i : Nat} {kk : IntKind} {z : Int} {xs : List (List Value)} {cs : List Value} (hu : P.underlying t = some (.slice el)) (hz : szB P el = some sz) (hx : Ev n E x v) (hs : SlE h sz v xs)
    (hi : Ev n E ix (.int kk z)) (hzi : z = (i : Nat)) (hxs : xs[i]? = some cs) : Pop P n E h (.indexAddr t x ix) ty (elemPtr v sz i 0) := by
  intro dst pos after guard h' hxt
  simp only [Ev] at hx hi
  subst hzi
  obtain ⟨a, cap, rfl, hcap, he⟩ := hs
  obtain ⟨b, off, c, e, f, rfl, hg, hl, hle, hcs⟩ := he i cs hxs
  have hlt : i < xs.length := (List.getElem?_eq_some_iff.1 hxs).1
  simp only [execOp, hx, hi]
  refine wps_v (v := elemPtr (.slice (some ⟨b, off, none⟩) xs.length cap) sz i 0) ?_ ⟨rfl, rfl⟩
  refine wps_bind' (wps_pure ?_)
  refine wps_bind' (wps_underlying hu ?_)
  dsimp only
  refine wps_bind' (wps_pure ?_)
  dsimp only
  refine wps_bind' (wps_underlying hu ?_)
  dsimp only
  rw [if_pos ⟨by omega, by omega⟩]
  refine wps_bind' (wps_sizeOf hz ?_)
  refine wps_pure ⟨rfl, ?_⟩
  simp [elemPtr, add_eq]

theorem Pop.loadElS {t ty : TypeId} {x : Operand} {v w : Value} {sz i fo : Nat} {xs : List (List Value)} {cs : List Value} (ht : agB P t = some false) (hx : Ev n E x (elemPtr v sz i fo)) (hs : SlE h sz v xs) (hxs : xs[i]? = some cs) (hv : Nth cs fo w) :
    Pop P n E h (.load t x) ty w := by
  intro dst pos after guard h' hxt
  simp only [Ev] at hx
  obtain ⟨a, cap, rfl, hcap, he⟩ := hs
  obtain ⟨b, off, c, e, f, rfl, hg, hl, hle, hcs⟩ := he i cs hxs
  have hfo : fo < sz := by
    have := (List.getElem?_eq_some_iff.1 hv).1
    omega
  simp only [execOp, hx, elemPtr]
  refine wps_v (v := w) (wps_bind' (wps_pure ?_)) ⟨rfl, rfl⟩
  refine wps_loadVarS (c := c) ht (hg.ext hxt) rfl ?_ ⟨rfl, rfl⟩
  simp only [Nth, hcs, List.getElem?_take, hfo, if_true, List.getElem?_drop, Array.getElem?_toList] at hv
  exact hv

theorem Pop.loadElA {t ty : TypeId} {x : Operand} {v : Value} {sz i fo m : Nat} {xs : List (List Value)} {cs cs' : List Value} (ht : agB P t = some true) (hm : szB P t = some m) (hx : Ev n E x (elemPtr v sz i fo)) (hs : SlE h sz v xs) (hxs : xs[i]? = some cs) (hv : SubL cs fo m cs') :
    Pop P n E h (.load t x) ty (.agg cs'.toArray) := by
  intro dst pos after guard h' hxt
  simp only [Ev] at hx
  obtain ⟨a, cap, rfl, hcap, he⟩ := hs
  obtain ⟨b, off, c, e, f, rfl, hg, hl, hle, hcs⟩ := he i cs hxs
  obtain ⟨hv1, hv2⟩ := hv
  simp only [execOp, hx, elemPtr]
  refine wps_v (v := .agg cs'.toArray) (wps_bind' (wps_pure ?_)) ⟨rfl, rfl⟩
  refine wps_loadVarA (c := c) ht hm (hg.ext hxt) rfl (by show off + i * sz + fo + m ≤ c.size; omega) ⟨rfl, ?_⟩
  simp only [Out.ok.injEq, Value.agg.injEq]
  apply Array.ext'
  simp only [Array.toList_extract, List.extract_eq_take_drop, hv1, hcs]
  rw [List.drop_take, List.take_take, List.drop_drop]
  congr 1
  omega

theorem Pop.fieldAddrEl {s ft ty : TypeId} {x : Operand} {v : Value} {sz j fo i fo' s' : Nat} {xs : List (List Value)} {cs : List Value} (hf : fdB P s i = some (ft, fo')) (hz : szB P ft = some (s' + 1)) (hx : Ev n E x (elemPtr v sz j fo)) (hs : SlE h sz v xs) (hxs : xs[j]? = some cs) :
    Pop P n E h (.fieldAddr s x i) ty (elemPtr v sz j (fo + fo')) := by
  obtain ⟨a, cap, rfl, hcap, he⟩ := hs
  obtain ⟨b, off, c, e, f, rfl, hg, hl, hle, hcs⟩ := he j cs hxs
  have := Pop.fieldAddr (ty := ty) (h := h) hf hz hx
  simpa [elemPtr, Nat.add_assoc] using this

theorem Pop.len {t ty : TypeId} {x : Operand} {v : Value} {sz : Nat} {xs : List (List Value)} {el : TypeId} (hu : P.underlying t = some (.slice el)) (hx : Ev n E x v) (hs : SlE h sz v xs) :
    Pop P n E h (.call { callee := .builtin .len, args := #[x], argTypes := #[t] }) ty (.int .i64 xs.length) := by
  intro dst pos after guard h' hxt
  simp only [Ev] at hx
  obtain ⟨a, cap, rfl, hcap, he⟩ := hs
  simp only [execOp, resolve, List.map_toArray, List.map_cons, List.map_nil, hx]
  refine wps_bind' (wps_pure ?_)
  dsimp only [invoke, builtin]
  refine wps_v (v := .int .i64 xs.length) ?_ ⟨rfl, rfl⟩
  unfold Builtin.len_
  refine wps_bind' (wps_underlying hu ?_)
  exact wps_pure ⟨rfl, rfl⟩

/-! ### numbers -/
theorem wrap_in {z : Int} (h1 : -9223372036854775808 ≤ z) (h2 : z ≤ 9223372036854775807) : IntKind.i64.wrap z = z := by
  simp [IntKind.wrap, IntKind.bits, IntKind.signed]
  split <;> omega

theorem Pop.bin {op : BinOp} {t t' ty : TypeId} {x y : Operand} {k : IntKind} {a c : Int} {v : Value} (hx : Ev n E x (.int k a)) (hy : Ev n E y (.int k c))
    (hv : ∀ h' : LH, wps P (binOp op t (.int k a) (.int k c)) h' (fun o h'' => h'' = h' ∧ o = .ok v)) : Pop P n E h (.binOp op t x y t') ty v := by
  intro dst pos after guard h' hxt
  simp only [Ev] at hx hy
  simp only [execOp, hx, hy]
  refine wps_v (v := v) ?_ ⟨rfl, rfl⟩
  have hg : ∀ K : Out Unit → LH → Prop, K (.ok ()) h' → wps P (eqGuard op t x y (.int k a) (.int k c)) h' K := by
    intro K hK
    unfold eqGuard
    cases op <;> exact hK
  exact wps_bind' (hg _ (hv h'))

theorem Pop.addW {t t' ty : TypeId} {x y : Operand} {a c : Int} (hx : Ev n E x (.int .i64 a)) (hy : Ev n E y (.int .i64 c)) : Pop P n E h (.binOp .add t x y t') ty (.int .i64 (IntKind.i64.wrap (a + c))) := Pop.bin hx hy fun _ => ⟨rfl, rfl⟩
theorem Pop.subW {t t' ty : TypeId} {x y : Operand} {a c : Int} (hx : Ev n E x (.int .i64 a)) (hy : Ev n E y (.int .i64 c)) : Pop P n E h (.binOp .sub t x y t') ty (.int .i64 (IntKind.i64.wrap (a - c))) := Pop.bin hx hy fun _ => ⟨rfl, rfl⟩
theorem Pop.mulW {t t' ty : TypeId} {x y : Operand} {a c : Int} (hx : Ev n E x (.int .i64 a)) (hy : Ev n E y (.int .i64 c)) : Pop P n E h (.binOp .mul t x y t') ty (.int .i64 (IntKind.i64.wrap (a * c))) := Pop.bin hx hy fun _ => ⟨rfl, rfl⟩
theorem Pop.add {t t' ty : TypeId} {x y : Operand} {a c : Int} (hx : Ev n E x (.int .i64 a)) (hy : Ev n E y (.int .i64 c)) (h1 : -9223372036854775808 ≤ a + c) (h2 : a + c ≤ 9223372036854775807) : Pop P n E h (.binOp .add t x y t') ty (.int .i64 (a + c)) := by
  have := Pop.addW (P := P) (h := h) (t := t) (t' := t') (ty := ty) hx hy; rwa [wrap_in h1 h2] at this
theorem Pop.sub {t t' ty : TypeId} {x y : Operand} {a c : Int} (hx : Ev n E x (.int .i64 a)) (hy : Ev n E y (.int .i64 c)) (h1 : -9223372036854775808 ≤ a - c) (h2 : a - c ≤ 9223372036854775807) : Pop P n E h (.binOp .sub t x y t') ty (.int .i64 (a - c)) := by
  have := Pop.subW (P := P) (h := h) (t := t) (t' := t') (ty := ty) hx hy; rwa [wrap_in h1 h2] at this
theorem Pop.mul {t t' ty : TypeId} {x y : Operand} {a c : Int} (hx : Ev n E x (.int .i64 a)) (hy : Ev n E y (.int .i64 c)) (h1 : -9223372036854775808 ≤ a * c) (h2 : a * c ≤ 9223372036854775807) : Pop P n E h (.binOp .mul t x y t') ty (.int .i64 (a * c)) := by
  have := Pop.mulW (P := P) (h := h) (t := t) (t' := t') (ty := ty) hx hy; rwa [wrap_in h1 h2] at this
theorem Pop.lss {t t' ty : TypeId} {x y : Operand} {k : IntKind} {a c : Int} (hx : Ev n E x (.int k a)) (hy : Ev n E y (.int k c)) : Pop P n E h (.binOp .lss t x y t') ty (.bool (decide (a < c))) :=
  Pop.bin hx hy fun _ => by unfold binOp; simp only [ne_eq, not_true_eq_false, if_false]; exact ⟨rfl, rfl⟩
theorem Pop.leq {t t' ty : TypeId} {x y : Operand} {k : IntKind} {a c : Int} (hx : Ev n E x (.int k a)) (hy : Ev n E y (.int k c)) : Pop P n E h (.binOp .leq t x y t') ty (.bool (decide (a ≤ c))) :=
  Pop.bin hx hy fun _ => by unfold binOp; simp only [ne_eq, not_true_eq_false, if_false]; exact ⟨rfl, rfl⟩
theorem Pop.gtr {t t' ty : TypeId} {x y : Operand} {k : IntKind} {a c : Int} (hx : Ev n E x (.int k a)) (hy : Ev n E y (.int k c)) : Pop P n E h (.binOp .gtr t x y t') ty (.bool (decide (a > c))) :=
  Pop.bin hx hy fun _ => by unfold binOp; simp only [ne_eq, not_true_eq_false, if_false]; exact ⟨rfl, rfl⟩
theorem Pop.geq {t t' ty : TypeId} {x y : Operand} {k : IntKind} {a c : Int} (hx : Ev n E x (.int k a)) (hy : Ev n E y (.int k c)) : Pop P n E h (.binOp .geq t x y t') ty (.bool (decide (a ≥ c))) :=
  Pop.bin hx hy fun _ => by unfold binOp; simp only [ne_eq, not_true_eq_false, if_false]; exact ⟨rfl, rfl⟩
theorem Pop.eql {t t' ty : TypeId} {x y : Operand} {k : IntKind} {a c : Int} (hx : Ev n E x (.int k a)) (hy : Ev n E y (.int k c)) : Pop P n E h (.binOp .eql t x y t') ty (.bool (a == c)) :=
  Pop.bin hx hy fun _ => by unfold binOp; simp only [ne_eq, not_true_eq_false, if_false]; exact ⟨rfl, rfl⟩
theorem Pop.neq {t t' ty : TypeId} {x y : Operand} {k : IntKind} {a c : Int} (hx : Ev n E x (.int k a)) (hy : Ev n E y (.int k c)) : Pop P n E h (.binOp .neq t x y t') ty (.bool (a != c)) :=
  Pop.bin hx hy fun _ => by unfold binOp; simp only [ne_eq, not_true_eq_false, if_false]; exact ⟨rfl, rfl⟩
theorem Pop.not {t ty : TypeId} {x : Operand} {t' : Bool} (hx : Ev n E x (.bool t')) : Pop P n E h (.unOp .not t x) ty (.bool (!t')) := by
  intro dst pos after guard h' hxt
  simp only [Ev] at hx
  simp only [execOp, hx]
  exact ⟨rfl, rfl⟩
theorem Pop.max {t1 t2 ty : TypeId} {x y : Operand} {k : IntKind} {a c : Int} (hx : Ev n E x (.int k a)) (hy : Ev n E y (.int k c)) : Pop P n E h (.call { callee := .builtin .max, args := #[x, y], argTypes := #[t1, t2] }) ty (.int k (Max.max a c)) := by
  intro dst pos after guard h' hxt
  simp only [Ev] at hx hy
  simp only [execOp, resolve, List.map_toArray, List.map_cons, List.map_nil, hx, hy]
  refine wps_bind' (wps_pure ?_)
  dsimp only [invoke, builtin]
  refine wps_v (v := .int k (Max.max a c)) ?_ ⟨rfl, rfl⟩
  unfold Builtin.max_
  dsimp only [List.foldlM]
  refine wps_bind' (wps_pure ?_)
  refine wps_pure ⟨rfl, ?_⟩
  have : (if c > a then c else a) = Max.max a c := by omega
  rw [this]
theorem Pop.min {t1 t2 ty : TypeId} {x y : Operand} {k : IntKind} {a c : Int} (hx : Ev n E x (.int k a)) (hy : Ev n E y (.int k c)) : Pop P n E h (.call { callee := .builtin .min, args := #[x, y], argTypes := #[t1, t2] }) ty (.int k (Min.min a c)) := by
  intro dst pos after guard h' hxt
  simp only [Ev] at hx hy
  simp only [execOp, resolve, List.map_toArray, List.map_cons, List.map_nil, hx, hy]
  refine wps_bind' (wps_pure ?_)
  dsimp only [invoke, builtin]
  refine wps_v (v := .int k (Min.min a c)) ?_ ⟨rfl, rfl⟩
  unfold Builtin.min_
  dsimp only [List.foldlM]
  refine wps_bind' (wps_pure ?_)
  refine wps_pure ⟨rfl, ?_⟩
  have : (if c < a then c else a) = Min.min a c := by omega
  rw [this]
theorem Pop.makeFunc {fn : Fn} {cap : List Operand} {vs : List Value} {ty : TypeId} (hc : cap.map (ev n E) = vs) : Pop P n E h (.makeFunc fn #[] cap.toArray) ty (.func fn #[] vs.toArray) := by
  intro dst pos after guard h' hxt
  simp only [execOp]
  refine wps_v (v := .func fn #[] vs.toArray) (wps_pure ⟨rfl, ?_⟩) ⟨rfl, rfl⟩
  simp [hc]
theorem Pop.extract {x : Operand} {i : Nat} {l : List Value} {v : Value} {ty : TypeId} (hx : Ev n E x (.tuple l.toArray)) (hv : Nth l i v) : Pop P n E h (.extract x i) ty v := by
  intro dst pos after guard h' hxt
  simp only [Ev] at hx
  simp only [execOp, hx]
  refine wps_v (v := v) ?_ ⟨rfl, rfl⟩
  simp only [Nth] at hv
  simp only [Instr.extract, List.getElem?_toArray, hv]
  exact ⟨rfl, rfl⟩
end
end Go.SL
/-
  The calculus of local heaps, part five: operations that make and write memory, calls, returns, functions' contracts.
-/
namespace Go.SL
open Go.Conc (G)

theorem LH.upd_upd (h : LH) (b : Nat) (o o' : Obj) : (h.upd b o).upd b o' = h.upd b o' := by
  simp only [LH.upd, LH.mk.injEq, and_true]
  constructor
  · funext x; split <;> rfl
  · funext x; exact propext ⟨fun h => h.elim id .inr, fun h => .inl h⟩

section
variable {P : Program} {main : Bool} {S : LH → Goroutine → Prop} {b : Base} {E : Env} {ds : List Deferred} {k : List Item} {cs : List Frame} {h : LH} {ops : Array Oper} {K : Env → List Deferred → LH → Prop}
variable {dst : Option Tmp} {ty : TypeId} {pos : String} {after : Array Edge}

/-- A guard that says yes. -/
theorem OpS.guardT {op : Op} {g : Nat × Bool} (hw : Region.wanted ⟨dst, op, ty, pos, after, some g⟩ (yielded ops (arr b.n E)) = true) (x : OpS P S b cs ops ⟨dst, op, ty, pos, after, none⟩ E ds h K) : OpS P S b cs ops ⟨dst, op, ty, pos, after, some g⟩ E ds h K := by
  refine ⟨x.1, ?_⟩
  rw [if_pos hw]
  have := x.2
  rw [if_pos (by rfl)] at this
  exact this

theorem OpS.of {op : Op} (hd : Op.isDefer op = false) (x : wps P (execOp (ev b.n E) ⟨dst, op, ty, pos, after, none⟩) h (NextO P S b cs E ds dst K)) : OpS P S b cs ops ⟨dst, op, ty, pos, after, none⟩ E ds h K :=
  ⟨.inr (fun c e => by rw [show op = _ from e] at hd; exact absurd hd (by simp [Op.isDefer])), by rw [if_pos (by rfl)]; exact x⟩

def zrL (P : Program) (t : TypeId) : Option (List Value) := (zrB P t).map fun v => v.cells.toList

theorem OpS.alloc {t : TypeId} {l : List Value} (hz : zrL P t = some l) (hk : ∀ p, h.get p = none → K (putE E dst (.pointer (some ⟨p, 0, none⟩))) ds (h.upd p (.cells l.toArray t (0, 0)))) : OpS P S b cs ops ⟨dst, .alloc t, ty, pos, after, none⟩ E ds h K := by
  refine OpS.of rfl ?_
  unfold zrL at hz
  cases hv : zrB P t with
  | none => simp [hv] at hz
  | some v =>
    simp only [hv, Option.map_some, Option.some.injEq] at hz
    subst hz
    simp only [execOp]
    refine wps_bind' (wps_bind' (wps_zeroValue hv ?_))
    refine wps_bind' (fun p hp => ?_)
    have := hk p hp
    rw [Array.toArray_toList] at this
    exact this

theorem OpS.box {t : TypeId} {x : Operand} {v : Value} {l : List Value} (hx : Ev b.n E x v) (hl : v.cells = l.toArray) (hk : ∀ p, h.get p = none → K (putE E dst (.pointer (some ⟨p, 0, none⟩))) ds (h.upd p (.cells l.toArray t (0, 0)))) : OpS P S b cs ops ⟨dst, .box t x, ty, pos, after, none⟩ E ds h K := by
  refine OpS.of rfl ?_
  simp only [Ev] at hx
  simp only [execOp, hx]
  refine wps_bind' (wps_bind' (fun p hp => ?_))
  rw [hl]
  exact hk p hp

/-- c'' is c, with l written from off on. -/
def Wr (c : List Value) (off : Nat) (l c'' : List Value) : Prop := c'' = c.take off ++ l ++ c.drop (off + l.length) ∧ off + l.length ≤ c.length
theorem Wr.nil {c : List Value} : Wr c 0 [] c := ⟨by simp, by simp⟩
theorem Wr.here {c l c'' : List Value} {x y : Value} (p : Wr c 0 l c'') : Wr (x :: c) 0 (y :: l) (y :: c'') := ⟨by have := p.1; simp at this ⊢; exact this, by have := p.2; simp at this ⊢; omega⟩
theorem Wr.there {c l c'' : List Value} {x : Value} {off : Nat} (p : Wr c off l c'') : Wr (x :: c) (off + 1) l (x :: c'') :=
  ⟨by have := p.1; have e : off + 1 + l.length = off + l.length + 1 := by omega
      rw [e]; simpa using this, by have := p.2; simp; omega⟩
theorem Wr.all {c l : List Value} (hl : c.length = l.length) : Wr c 0 l l := ⟨by simp [← hl], by simp [hl]⟩

def Sgl (l : List Value) : Prop := ∀ v ∈ l, Value.single v = true
theorem Sgl.nil : Sgl [] := by simp [Sgl]
theorem Sgl.cons {v : Value} {l : List Value} (hv : Value.single v = true) (p : Sgl l) : Sgl (v :: l) := by simpa [Sgl] using ⟨hv, p⟩

theorem wps_storeCells {p : Nat} {e : TypeId} {a : Addr} (hs : a.spot = none) (hb : a.block = p) : ∀ (l : List Value) (i : Nat) (c : List Value) (h : LH) (K : Out Unit → LH → Prop), Own h p → HG h p (.cells c.toArray e (0, 0)) → a.off + i + l.length ≤ c.length → Sgl l →
    K (.ok ()) (h.upd p (.cells (c.take (a.off + i) ++ l ++ c.drop (a.off + i + l.length)).toArray e (0, 0))) → wps P (storeCells a l i) h K := by
  intro l
  induction l with
  | nil =>
    intro i c h K ho hg hle _ x
    simp only [List.append_nil, List.length_nil, Nat.add_zero, List.take_append_drop] at x
    have : h.upd p (.cells c.toArray e (0, 0)) = h := by
      obtain ⟨g, o, _⟩ := h
      simp only [LH.upd, LH.mk.injEq, and_true]
      constructor
      · funext y; split
        · subst y; exact hg.symm
        · rfl
      · funext y; exact propext ⟨fun q => q.elim id (fun q => q ▸ ho), .inl⟩
    rw [this] at x; exact x
  | cons v l ih =>
    intro i c h K ho hg hle hsg x
    have hv : Value.single v = true := hsg v List.mem_cons_self
    have hlt : a.off + i < c.length := by simp at hle; omega
    refine wps_bind' ?_
    refine ⟨rfl, hv, ?_, c.toArray, e, (0, 0), ?_, add_spot hs i, ?_, ?_, ?_⟩
    · rw [add_block', hb]; exact ho
    · rw [add_block', hb]; exact hg
    · rw [add_off]; simpa using hlt
    · simp
    · rw [add_block', hb, add_off]
      have e1 : (c.toArray.setIfInBounds (a.off + i) v) = (c.set (a.off + i) v).toArray := by simp
      rw [e1]
      refine ih (i + 1) (c.set (a.off + i) v) _ K Own.hit HG.hit (by simp at hle ⊢; omega) (fun w hw => hsg w (List.mem_cons_of_mem _ hw)) ?_
      rw [LH.upd_upd]
      have e2 : (c.set (a.off + i) v).take (a.off + (i + 1)) ++ l ++ (c.set (a.off + i) v).drop (a.off + (i + 1) + l.length) = c.take (a.off + i) ++ v :: l ++ c.drop (a.off + i + (v :: l).length) := by
        have t1 : (c.set (a.off + i) v).take (a.off + (i + 1)) = c.take (a.off + i) ++ [v] := by
          have : a.off + (i + 1) = a.off + i + 1 := by omega
          rw [this, List.take_succ_eq_append_getElem (by simpa using hlt)]
          rw [List.take_set_of_le (Nat.le_refl _)]; simp
        have t2 : (c.set (a.off + i) v).drop (a.off + (i + 1) + l.length) = c.drop (a.off + i + (v :: l).length) := by
          rw [List.drop_set_of_lt (by omega)]
          congr 1
          simp; omega
        rw [t1, t2]; simp
      rw [e2]; exact x

theorem OpS.store {t e : TypeId} {x y : Operand} {p off : Nat} {c l c'' : List Value} {v : Value} (hx : Ev b.n E x (.pointer (some ⟨p, off, none⟩))) (hy : Ev b.n E y v) (hl : v.cells = l.toArray) (hz : szB P t = some l.length) (hs : Sgl l) (ho : Own h p) (hg : HG h p (.cells c.toArray e (0, 0))) (hw : Wr c off l c'')
    (hk : K (putE E dst undef) ds (h.upd p (.cells c''.toArray e (0, 0)))) : OpS P S b cs ops ⟨dst, .store t x y, ty, pos, after, none⟩ E ds h K := by
  refine OpS.of rfl ?_
  simp only [Ev] at hx hy
  simp only [execOp, hx, hy]
  refine wps_bind' ?_
  refine wps_bind' (wps_pure ?_)
  unfold storeVar
  refine wps_bind' (wps_sizeOf hz ?_)
  have hsz : ¬ v.cells.size ≠ l.length := by simp [hl]
  dsimp only
  rw [if_neg hsz]
  have hl' : v.cells.toList = l := by simp [hl]
  rw [hl']
  refine wps_storeCells (a := ⟨p, off, none⟩) rfl rfl l 0 c h _ ho hg (by have := hw.2; simpa using this) hs ?_
  simp only [Nat.add_zero]
  rw [← hw.1]
  exact hk

/-- A function's contract: called with these arguments over this local heap it returns what R says, in whatever company that leaves the local heap alone. -/
def Con (P : Program) (f : FuncId) (args : List Value) (h : LH) (R : Value → LH → Prop) : Prop :=
  ∀ (main : Bool) (S : LH → Goroutine → Prop), Regime P main S → ∀ (c : Frame) (cs : List Frame), (∀ v h', R v h' → S h' (G (c.finish v) cs)) → S h (G (Frame.enter P f args.toArray .normal) (c :: cs))

theorem Con.mono {f : FuncId} {args : List Value} {R R' : Value → LH → Prop} (x : Con P f args h R) (hR : ∀ v h', R v h' → R' v h') : Con P f args h R' := fun main S hS c cs hc => x main S hS c cs fun v h' hv => hc v h' (hR v h' hv)

theorem Con.intro {f : FuncId} {fn : Func} {body : Code} {n m : Nat} {args : List Value} {R : Value → LH → Prop} (hf : P.funcs[f]? = some fn) (hb : fn.body = some body) (hn : fn.ntmps = n) (hl : args.length = m) (ha : m ≤ n)
    (x : ∀ (main : Bool) (S : LH → Goroutine → Prop), Regime P main S → ∀ (c : Frame) (cs : List Frame), (∀ v h', R v h' → S h' (G (c.finish v) cs)) → S h (G ((⟨f, n, .normal, none⟩ : Base).fr (ofL args) [] [.code body]) (c :: cs))) : Con P f args h R := by
  intro main S hS c cs hc
  rw [enter_eq hf hb (by omega), hn]
  exact x main S hS c cs hc

def isGo (P : Program) (f : FuncId) : Bool :=
  match P.funcs[f]? with
  | some fn => !(fn.name == "runtime.NumGoroutine") && fn.body.isSome
  | none => false

theorem wps_callFunc {f : FuncId} {args : Array Value} {K : Out Next → LH → Prop} (hf : isGo P f = true) (x : K (.ok (.enter f args)) h) : wps P (callFunc f args) h K := by
  unfold isGo at hf
  refine wps_bind' (wps_program ?_)
  cases hfn : P.funcs[f]? with
  | none => simp [hfn] at hf
  | some fn =>
    simp only [hfn, Bool.and_eq_true, Bool.not_eq_true'] at hf
    simp only [hfn]
    rw [hf.1]
    have : fn.body.isNone = false := by cases hbd : fn.body <;> simp_all
    simp only [Bool.false_eq_true, if_false, this]
    exact wps_pure x

/-- The values of a list of operands. -/
def EvL (n : Nat) (E : Env) (xs : List Operand) (vs : List Value) : Prop := xs.map (ev n E) = vs
theorem EvL.nil {n : Nat} : EvL n E [] [] := rfl
theorem EvL.cons {n : Nat} {x : Operand} {xs : List Operand} {v : Value} {vs : List Value} (hx : Ev n E x v) (p : EvL n E xs vs) : EvL n E (x :: xs) (v :: vs) := by
  simp only [EvL, List.map_cons]; rw [show ev n E x = v from hx, show xs.map (ev n E) = vs from p]

theorem OpS.call {f : FuncId} {x : Operand} {cap args : List Value} {xs : List Operand} {tys : Array TypeId} {R : Value → LH → Prop} (hf : Ev b.n E x (.func (.func f) #[] cap.toArray)) (hgo : isGo P f = true) (hargs : EvL b.n E xs args)
    (hc : ∀ c : Frame, (∀ v h', R v h' → S h' (G (c.finish v) cs)) → S h (G (Frame.enter P f (args ++ cap).toArray .normal) (c :: cs))) (hk : ∀ v h', R v h' → K (putE E dst v) ds h') :
    OpS P S b cs ops ⟨dst, .call { callee := .value x, args := xs.toArray, argTypes := tys }, ty, pos, after, none⟩ E ds h K := by
  refine OpS.of rfl ?_
  simp only [Ev] at hf
  simp only [EvL] at hargs
  simp only [execOp, resolve, hf, Deferred.ofValue, List.map_toArray, hargs]
  refine wps_bind' (wps_pure ?_)
  dsimp only [invoke]
  refine wps_callFunc hgo ?_
  intro c h1 h2
  have := hc c (fun v h' hv => h1 v h' (hk v h' hv))
  simpa using this

theorem OpS.callC {f : FuncId} {x : Operand} {cap args : List Value} {xs : List Operand} {tys : Array TypeId} {R : Value → LH → Prop} (hS : Regime P main S) (hf : Ev b.n E x (.func (.func f) #[] cap.toArray)) (hgo : isGo P f = true) (hargs : EvL b.n E xs args)
    (hc : Con P f (args ++ cap) h R) (hk : ∀ v h', R v h' → K (putE E dst v) ds h') :
    OpS P S b cs ops ⟨dst, .call { callee := .value x, args := xs.toArray, argTypes := tys }, ty, pos, after, none⟩ E ds h K :=
  OpS.call hf hgo hargs (fun c hv => hc main S hS c cs hv) hk

/-! ### returns -/
inductive ResV (P : Program) (n : Nat) (E : Env) (h : LH) : List ResultVar → List Value → Prop
  | nil : ResV P n E h [] []
  | tmp {t : Tmp} {v : Value} {rs : List ResultVar} {vs : List Value} (hl : Look E t v) (ht : t < n) (p : ResV P n E h rs vs) : ResV P n E h (.tmp t :: rs) (v :: vs)
  | cellS {a : Tmp} {ty : TypeId} {p off : Nat} {c : List Value} {e : TypeId} {f : Nat × Nat} {v : Value} {rs : List ResultVar} {vs : List Value} (ha : agB P ty = some false) (hl : Look E a (.pointer (some ⟨p, off, none⟩))) (ht : a < n) (hg : HG h p (.cells c.toArray e f)) (hv : Nth c off v) (q : ResV P n E h rs vs) :
      ResV P n E h (.cell a ty :: rs) (v :: vs)
  | cellA {a : Tmp} {ty : TypeId} {p off sz : Nat} {c c' : List Value} {e : TypeId} {f : Nat × Nat} {rs : List ResultVar} {vs : List Value} (ha : agB P ty = some true) (hz : szB P ty = some sz) (hl : Look E a (.pointer (some ⟨p, off, none⟩))) (ht : a < n) (hg : HG h p (.cells c.toArray e f)) (hv : SubL c off sz c')
      (q : ResV P n E h rs vs) : ResV P n E h (.cell a ty :: rs) (.agg c'.toArray :: vs)

def resOf : List Value → Value
  | [v] => v
  | vs => .tuple vs.toArray

theorem wps_results {n : Nat} {fn : Func} {rs : List ResultVar} {vs : List Value} {K : Out Value → LH → Prop} (hr : fn.results = rs.toArray) (p : ResV P n E h rs vs) (x : K (.ok (resOf vs)) h) : wps P (results fn (arr n E)) h K := by
  unfold results
  rw [hr, List.mapM_toArray]
  simp only [map_eq_pure_bind, bind_assoc, pure_bind]
  have key : ∀ (rs : List ResultVar) (vs : List Value), ResV P n E h rs vs → ∀ K : Out (List Value) → LH → Prop, K (.ok vs) h → wps P (rs.mapM (m := Sem) fun
      | .tmp t => pure ((arr n E).getD t undef)
      | .cell a t => do loadVar t (← asAddr ((arr n E).getD a undef))) h K := by
    intro rs vs p
    induction p with
    | nil => intro K x; exact wps_pure x
    | @tmp t v rs vs hl ht _ ih =>
      intro K x
      rw [List.mapM_cons]
      refine wps_bind' (wps_pure ?_)
      refine wps_bind' (ih _ ?_)
      refine wps_pure ?_
      have : (arr n E).getD t undef = v := by rw [arr, ofFn_getD, if_pos ht]; exact hl
      rw [this]; exact x
    | @cellS a ty p off c e f v rs vs ha hl ht hg hv _ ih =>
      intro K x
      rw [List.mapM_cons]
      have : (arr n E).getD a undef = .pointer (some ⟨p, off, none⟩) := by rw [arr, ofFn_getD, if_pos ht]; exact hl
      refine wps_bind' ?_
      dsimp only
      rw [this]
      refine wps_bind' (wps_pure ?_)
      refine wps_loadVarS (c := c.toArray) ha hg rfl (by simpa [Nth] using hv) ?_
      exact wps_bind' (ih _ (wps_pure x))
    | @cellA a ty p off sz c c' e f rs vs ha hz hl ht hg hv _ ih =>
      intro K x
      rw [List.mapM_cons]
      have : (arr n E).getD a undef = .pointer (some ⟨p, off, none⟩) := by rw [arr, ofFn_getD, if_pos ht]; exact hl
      refine wps_bind' ?_
      dsimp only
      rw [this]
      refine wps_bind' (wps_pure ?_)
      refine wps_loadVarA (c := c.toArray) ha hz hg rfl (by simpa using hv.2) ?_
      refine wps_bind' (ih _ (wps_pure ?_))
      have e1 : c.toArray.extract off (off + sz) = c'.toArray := by
        rw [hv.1]; simp [List.extract_eq_take_drop]
      simp only [e1]; exact x
  refine wps_bind' (key rs vs p _ ?_)
  refine wps_pure ?_
  have : (if hs : vs.toArray.size = 1 then vs.toArray[0] else .tuple vs.toArray) = resOf vs := by
    match vs with
    | [] => rfl
    | [v] => rfl
    | _ :: _ :: _ => simp [resOf]
  rw [this]; exact x

theorem Regime.ret' (hS : Regime P main S) {f : FuncId} {n : Nat} {fn : Func} {rs : List ResultVar} {vs : List Value} {c : Frame} (hf : P.funcs[f]? = some fn) (hr : fn.results = rs.toArray) (p : ResV P n E h rs vs)
    (hk : S h (G (c.finish (resOf vs)) cs)) : S h (G ((⟨f, n, .normal, none⟩ : Base).fr E [] (.code .ret :: k)) (c :: cs)) :=
  hS.ret rfl (hS.back (b := ⟨f, n, .normal, none⟩) hf rfl (wps_results hr p hk))
theorem Regime.fin' (hS : Regime P main S) {f : FuncId} {n : Nat} {fn : Func} {rs : List ResultVar} {vs : List Value} {c : Frame} (hf : P.funcs[f]? = some fn) (hr : fn.results = rs.toArray) (p : ResV P n E h rs vs)
    (hk : S h (G (c.finish (resOf vs)) cs)) : S h (G ((⟨f, n, .normal, none⟩ : Base).fr E [] []) (c :: cs)) :=
  hS.fin rfl (hS.back (b := ⟨f, n, .normal, none⟩) hf rfl (wps_results hr p hk))
end
end Go.SL
/-
  The calculus of local heaps, part six: more operations: parts of structs, strings, slices that are made and appended to.
-/
namespace Go.SL
open Go.Conc (G)

theorem cells_single {v : Value} (hv : Value.single v = true) : v.cells = [v].toArray := by
  cases v <;> first | rfl | cases hv
theorem SlE.single {h : LH} {sz : Nat} {v : Value} {xs : List (List Value)} (p : SlE h sz v xs) : Value.single v = true := by
  obtain ⟨a, cap, rfl, _⟩ := p; rfl

section
variable {P : Program} {main : Bool} {S : LH → Goroutine → Prop} {b : Base} {E : Env} {ds : List Deferred} {k : List Item} {cs : List Frame} {h : LH} {ops : Array Oper} {K : Env → List Deferred → LH → Prop} {n : Nat}
variable {dst : Option Tmp} {ty : TypeId} {pos : String} {after : Array Edge}

theorem WL.cons {Fin : Env → List Deferred → LH → Prop} {o : Oper} {os : List Oper} (x : OpS P S b cs ops o E ds h (WL P S b cs ops Fin os)) : WL P S b cs ops Fin (o :: os) E ds h := x
theorem WL.nil {k : List Item} (x : S h (G (b.fr E ds k) cs)) : WL P S b cs ops (fun E ds h => S h (G (b.fr E ds k) cs)) [] E ds h := x

theorem PopW.of {op : Op} {v : Value} (hp : Pop P n E h op ty v) : PopW P n ops E h ⟨dst, op, ty, pos, after, none⟩ v := .inl ⟨rfl, fun h' hx => hp dst pos after none h' hx⟩
theorem PopW.ofG {op : Op} {g : Nat × Bool} {v : Value} (hw : Region.wanted ⟨dst, op, ty, pos, after, some g⟩ (yielded ops (arr n E)) = true) (hp : Pop P n E h op ty v) : PopW P n ops E h ⟨dst, op, ty, pos, after, some g⟩ v := .inl ⟨hw, fun h' hx => hp dst pos after (some g) h' hx⟩
theorem PopW.no {o : Oper} (hw : Region.wanted o (yielded ops (arr n E)) = false) : PopW P n ops E h o undef := .inr ⟨hw, rfl⟩

theorem Pop.pickT {c x y : Operand} {t : Bool} {v : Value} (hc : Ev n E c (.bool t)) (ht : t = true) (hx : Ev n E x v) : Pop P n E h (.pick c x y) ty v := by
  subst ht
  have := Pop.pick (P := P) (h := h) (ty := ty) (y := y) (w := ev n E y) hc hx rfl
  simpa using this
theorem Pop.pickF {c x y : Operand} {t : Bool} {v : Value} (hc : Ev n E c (.bool t)) (ht : t = false) (hy : Ev n E y v) : Pop P n E h (.pick c x y) ty v := by
  subst ht
  have := Pop.pick (P := P) (h := h) (ty := ty) (x := x) (v := ev n E x) hc rfl hy
  simpa using this

/-- A guard of which both is to be looked at. -/
theorem OpS.guardS {op : Op} {j d : Nat} {want t : Bool} (hj : (ops[j]?).bind (·.dst) = some d) (hd : d < b.n) (he : Look E d (.bool t)) (hnd : Op.isDefer op = false)
    (hT : t = want → OpS P S b cs ops ⟨dst, op, ty, pos, after, none⟩ E ds h K) (hF : t = (!want) → K (putE E dst undef) ds h) : OpS P S b cs ops ⟨dst, op, ty, pos, after, some (j, want)⟩ E ds h K := by
  by_cases ht : t = want
  · exact OpS.guardT (gT hj hd he ht) (hT ht)
  · have ht' : t = (!want) := by cases t <;> cases want <;> simp_all
    exact OpS.not hnd (gF hj hd he ht') (hF ht')

theorem Ext.upd' {h₀ h : LH} (x : Ext h₀ h) {p : Nat} {o : Obj} (hn : h₀.get p = none) : Ext h₀ (h.upd p o) :=
  ⟨fun y z hy => by
    have h1 := x.get _ _ hy
    simp only [LH.upd]
    split
    · subst y; rw [hn] at hy; cases hy
    · exact h1, fun y hy => .inl (x.own y hy), x.gh⟩
theorem fresh_of {h₀ h : LH} {p : Nat} (hn : h.get p = none) (x : Ext h₀ h) : h₀.get p = none := by
  cases hg : h₀.get p with
  | none => rfl
  | some o => rw [x.get _ _ hg] at hn; cases hn

/-! ### structs put together -/
inductive FillC (P : Program) (t : TypeId) : List Value → List (Nat × Value) → List Value → Prop
  | nil {z : List Value} : FillC P t z [] z
  | cons {z l z' z'' : List Value} {i off : Nat} {ft : TypeId} {v : Value} {rest : List (Nat × Value)} (hf : fdB P t i = some (ft, off)) (hl : v.cells = l.toArray) (hz : szB P ft = some l.length) (hw : Wr z off l z') (p : FillC P t z' rest z'') : FillC P t z ((i, v) :: rest) z''

theorem setIf_eq (c : List Value) : ∀ (l : List Value) (off : Nat), off + l.length ≤ c.length →
    (l.toArray.zipIdx.foldl (fun (cs : Array Value) (x : Value × Nat) => cs.setIfInBounds (off + x.2) x.1) c.toArray) = (c.take off ++ l ++ c.drop (off + l.length)).toArray := by
  intro l off hle
  have key : ∀ (l : List Value) (i : Nat) (c : List Value), off + i + l.length ≤ c.length →
      ((l.zipIdx i).foldl (fun (cs : Array Value) (x : Value × Nat) => cs.setIfInBounds (off + x.2) x.1) c.toArray) = (c.take (off + i) ++ l ++ c.drop (off + i + l.length)).toArray := by
    intro l
    induction l with
    | nil => intro i c _; simp
    | cons v l ih =>
      intro i c hle
      simp only [List.length_cons] at hle
      simp only [List.zipIdx_cons, List.foldl_cons]
      have e1 : c.toArray.setIfInBounds (off + i) v = (c.set (off + i) v).toArray := by simp
      rw [e1, ih (i + 1) (c.set (off + i) v) (by simp; omega)]
      congr 1
      have hlt : off + i < c.length := by omega
      have t1 : (c.set (off + i) v).take (off + (i + 1)) = c.take (off + i) ++ [v] := by
        have : off + (i + 1) = off + i + 1 := by omega
        rw [this, List.take_succ_eq_append_getElem (by simpa using hlt)]
        rw [List.take_set_of_le (Nat.le_refl _)]; simp
      have t2 : (c.set (off + i) v).drop (off + (i + 1) + l.length) = c.drop (off + i + (v :: l).length) := by
        rw [List.drop_set_of_lt (by omega)]
        congr 1
        simp; omega
      rw [t1, t2]; simp
  have := key l 0 c (by omega)
  simp only [Nat.add_zero] at this
  rw [← this, ← Array.foldl_toList]
  simp

theorem fill_of {t : TypeId} {z c : List Value} {vs : List (Nat × Value)} {place : Nat → Option (Nat × Nat)} (p : FillC P t z vs c) (hp : ∀ i ft off s, fdB P t i = some (ft, off) → szB P ft = some s → place i = some (off, s)) : Instr.fill place z.toArray vs = some c.toArray := by
  induction p with
  | nil => rfl
  | @cons z l z' z'' i off ft v rest hf hl hz hw _ ih =>
    have hpl := hp i ft off _ hf hz
    simp only [Instr.fill, hpl]
    have h1 : v.cells.size = l.length := by rw [hl]; simp
    have h2 : off + l.length ≤ z.length := hw.2
    rw [if_neg (by simp [h1]; omega)]
    rw [hl, setIf_eq z l off h2, ← hw.1]
    exact ih

def allSz (P : Program) (t : TypeId) : Bool :=
  match P.underlying t with
  | some (.struct fs) => fs.toList.all fun f => (szB P f.type).isSome
  | _ => false

theorem Pop.build {t : TypeId} {ps : List (Nat × Operand)} {vs : List (Nat × Value)} {z c : List Value} (hu : allSz P t = true) (hz : zrL P t = some z) (hv : ps.map (fun p => (p.1, ev n E p.2)) = vs) (hf : FillC P t z vs c) :
    Pop P n E h (.build t ps.toArray) ty (.agg c.toArray) := by
  intro dst pos after guard h' hxt
  simp only [execOp, List.map_toArray]
  have e0 : (List.map (fun (x : Nat × Operand) => match x with | (i, x) => (i, ev n E x)) ps) = vs := by rw [← hv]
  rw [e0]
  refine wps_v (v := .agg c.toArray) ?_ ⟨rfl, rfl⟩
  unfold zrL at hz
  unfold allSz at hu
  cases hzv : zrB P t with
  | none => simp [hzv] at hz
  | some zv =>
    simp only [hzv, Option.map_some, Option.some.injEq] at hz
    cases hut : P.underlying t with
    | none => simp [hut] at hu
    | some d =>
      rw [hut] at hu
      cases d <;> simp only [Bool.false_eq_true] at hu
      rename_i fs
      unfold Instr.build
      refine wps_bind' (wps_zeroValue hzv ?_)
      refine wps_bind' (wps_underlying hut ?_)
      dsimp only
      have places : ∀ (fl : List Field) (K : Out (List (Nat × Nat)) → LH → Prop), (∀ f ∈ fl, ∃ s, szB P f.type = some s) → (∀ pl : List (Nat × Nat), (∀ (i : Nat) (f : Field) (s : Nat), fl[i]? = some f → szB P f.type = some s → pl[i]? = some (f.offset, s)) → K (.ok pl) h') →
          wps P (fl.mapM (m := Sem) fun f => do pure (f.offset, ← sizeOf f.type)) h' K := by
        intro fl
        induction fl with
        | nil => intro K _ hK; rw [List.mapM_nil]; exact wps_pure (hK [] (by simp))
        | cons f fl ih =>
          intro K hs hK
          rw [List.mapM_cons]
          obtain ⟨s, hs0⟩ := hs f List.mem_cons_self
          refine wps_bind' (wps_bind' (wps_sizeOf hs0 (wps_pure ?_)))
          refine wps_bind' (ih _ (fun g hg => hs g (List.mem_cons_of_mem _ hg)) (fun pl hpi => ?_))
          refine wps_pure (hK _ fun i g s' hg hs' => ?_)
          cases i with
          | zero => simp only [List.getElem?_cons_zero, Option.some.injEq] at hg; subst hg; rw [hs0] at hs'; cases hs'; rfl
          | succ i => simp only [List.getElem?_cons_succ] at hg ⊢; exact hpi i g s' hg hs'
      obtain ⟨fl⟩ := fs
      rw [List.mapM_toArray]
      simp only [map_eq_pure_bind, bind_assoc, pure_bind]
      refine wps_bind' (places fl _ (fun f hf => ?_) (fun pl hpl => ?_))
      · simp only [List.all_eq_true] at hu
        exact Option.isSome_iff_exists.1 (hu f hf)
      · have hfill := fill_of (place := (pl.toArray[·]?)) hf (fun i ft off s hfd hs => by
          unfold fdB at hfd
          rw [hut] at hfd
          simp only [List.getElem?_toArray] at hfd ⊢
          cases hfi : fl[i]? with
          | none => simp [hfi] at hfd
          | some fd =>
            simp only [hfi, Option.map_some, Option.some.injEq, Prod.mk.injEq] at hfd
            obtain ⟨rfl, rfl⟩ := hfd
            exact hpl i fd s hfi hs)
        have hzc : zv.cells = z.toArray := by rw [← hz]
        rw [hzc]
        simp only [hfill]
        exact wps_pure ⟨rfl, rfl⟩
end
end Go.SL
/-
  The calculus of local heaps, part seven: loops, and ranges over functions.
-/
namespace Go.SL
open Go.Conc (G)

section
variable {P : Program} {main : Bool} {S : LH → Goroutine → Prop} {b : Base} {E : Env} {ds : List Deferred} {k : List Item} {cs : List Frame} {h : LH} {ops : Array Oper} {K : Env → List Deferred → LH → Prop} {n : Nat}
variable {dst : Option Tmp} {ty : TypeId} {pos : String} {after : Array Edge}

/-- A loop: an invariant with a state of its own, and a measure. -/
theorem loop_ind {α : Type} {body : Code} (μ : α → Nat) (Inv : α → Env → LH → Prop)
    (step : ∀ a E h, Inv a E h → (∀ a' E' h', μ a' < μ a → Inv a' E' h' → S h' (G (b.fr E' ds (.code body :: .inLoop body :: k)) cs)) → S h (G (b.fr E ds (.code body :: .inLoop body :: k)) cs)) :
    ∀ a E h, Inv a E h → S h (G (b.fr E ds (.code body :: .inLoop body :: k)) cs) := by
  have key : ∀ (m : Nat) a E h, μ a = m → Inv a E h → S h (G (b.fr E ds (.code body :: .inLoop body :: k)) cs) := by
    intro m
    induction m using Nat.strongRecOn with
    | _ m ih => exact fun a E h hm hi => step a E h hi fun a' E' h' hlt hi' => ih (μ a') (hm ▸ hlt) a' E' h' rfl hi'
  exact fun a E h hi => key _ a E h rfl hi

theorem arr_set (d : Nat) (v : Value) : (arr n E).setIfInBounds d v = arr n (putE E (some d) v) := setIf_ofFn n E d v

/-- The record of a range over a function. -/
def mkLoop (fn : FuncId) (tmps : Array Value) (params : Array Tmp) (assign body : Code) (r : Nat) : Loop := { state := .ready, pending := none, fn, tmps, params, assign, body, defers := r }

theorem Regime.rangeFunc (hS : Regime P main S) (hb : b.round = none) {x : Operand} {params : Array Tmp} {assign body : Code} {g : FuncId} {cap : List Value} (hf : Ev b.n E x (.func (.func g) #[] cap.toArray)) (hgo : isGo P g = true)
    (hk : ∀ r l, h.get r = none → (h.upd r (.deferred (some []))).get l = none →
      S ((h.upd r (.deferred (some []))).upd l (.loop (mkLoop b.fn (arr b.n E) params assign body r)))
        (G (Frame.enter P g (.func (.yield l) #[] #[] :: cap).toArray .normal) (b.fr E ({ target := .collected r, args := #[] } :: ds) (.inRangeFunc l :: k) :: cs))) :
    S h (G (b.fr E ds (.code (.rangeFunc x params assign body) :: k)) cs) := by
  refine hS.step h _ rfl fun w hfit => ?_
  have h1 : wps P (Instr.enterLoop b.fn (arr b.n E) params assign body none) h (fun o h' => ∃ r l, h.get r = none ∧ (h.upd r (.deferred (some []))).get l = none ∧ h' = (h.upd r (.deferred (some []))).upd l (.loop (mkLoop b.fn (arr b.n E) params assign body r)) ∧ o = .ok (l, [{ target := .collected r, args := #[] }])) := by
    unfold Instr.enterLoop
    dsimp only
    refine wps_bind' (s := newObj _) (fun r hr => ?_)
    refine wps_bind' (wps_pure ?_)
    dsimp only
    refine wps_bind' (s := newObj _) (fun l hl => ?_)
    exact wps_pure ⟨r, l, hr, hl, rfl, rfl⟩
  obtain ⟨out, w1, h', new, r1, ⟨r, l, hr, hl, rfl, rfl⟩, t1⟩ := wps_run (P := P) _ h w #[] hfit h1
  rw [Array.empty_append] at r1
  have h2 : wps P (do let d ← resolve (ev b.n E) { callee := .value x, args := #[.const (.func (.yield l) #[] #[])], argTypes := #[] } 0; invoke d.target d.args) ((h.upd r (.deferred (some []))).upd l (.loop (mkLoop b.fn (arr b.n E) params assign body r)))
      (fun o h'' => h'' = (h.upd r (.deferred (some []))).upd l (.loop (mkLoop b.fn (arr b.n E) params assign body r)) ∧ o = .ok (.enter g (.func (.yield l) #[] #[] :: cap).toArray)) := by
    simp only [Ev] at hf
    simp only [resolve, hf, Deferred.ofValue]
    refine wps_bind' (wps_pure ?_)
    dsimp only [invoke]
    refine wps_callFunc hgo ⟨rfl, ?_⟩
    simp [ev]
  obtain ⟨out, w2, h'', new2, r2, ⟨rfl, rfl⟩, t2⟩ := wps_run (P := P) _ _ w1 #[] t1.fits h2
  rw [Array.empty_append] at r2
  refine ⟨G (Frame.enter P g (.func (.yield l) #[] #[] :: cap).toArray .normal) (b.fr E ({ target := .collected r, args := #[] } :: ds) (.inRangeFunc l :: k) :: cs), w2, seen P b.fn new ++ seen P b.fn (if (b.kind == CallKind.early) = true then #[] else new2), _, ?_, rfl, ?_, hk r l hr hl⟩
  · have he := eval_fr b E ({ target := .collected r, args := #[] } :: ds) (.inRangeFunc l :: k)
    have he0 := eval_fr b E ds (.code (.rangeFunc x params assign body) :: k)
    simp only [Base.fr] at he he0
    rw [hb] at he
    simp only [arr] at r1
    simp [-Sem.runT_eq, G, stepG, stepG.exec, Base.fr, hb, r1, Out.result, GStep.after, stepG.apply, he, r2]
  · have := t1.trans t2
    refine { this with evs := fun e hx => this.evs e ?_ }
    rcases Array.mem_append.1 hx with hx | hx
    · exact Array.mem_append.2 (.inl (seen_mem hx))
    · refine Array.mem_append.2 (.inr ?_)
      have := seen_mem hx
      split at this
      · simp at this
      · exact this

theorem Regime.beginRound (hS : Regime P main S) {l : Nat} {L : Loop} (hb : b.round = some l) (hg : HG h l (.loop L)) (ho : Own h l) (hr : L.state = .ready) (hk : S (h.upd l (.loop { L with state := .busy })) (G (b.fr E ds k) cs)) : S h (G (b.fr E ds (.beginRound :: k)) cs) := by
  refine hS.step h _ rfl fun w hfit => ?_
  have h1 : wps P (do Instr.beginRound l; pure Next.skip : Sem Next) h (fun o h' => h' = h.upd l (.loop { L with state := .busy }) ∧ o = .ok .skip) := by
    refine wps_bind' ?_
    unfold Instr.beginRound Instr.getLoop
    refine wps_bind' (wps_bind' ⟨_, hg, rfl, ?_⟩)
    refine wps_pure ?_
    refine wps_bind' ⟨ho, _, hg, rfl, rfl, ?_⟩
    simp only [hr]
    exact wps_pure (wps_pure ⟨rfl, rfl⟩)
  obtain ⟨out, w1, h', new, r1, ⟨rfl, rfl⟩, t1⟩ := wps_run (P := P) _ h w #[] hfit h1
  rw [Array.empty_append] at r1
  refine ⟨G (b.fr E ds k) cs, w1, seen P b.fn (if (b.kind == CallKind.early) = true then #[] else new), _, ?_, rfl, { t1 with evs := fun e hx => t1.evs e (by
    have := seen_mem hx
    split at this
    · simp at this
    · exact this) }, hk⟩
  simp [-Sem.runT_eq, -bind_pure_comp, G, stepG, stepG.exec, Base.fr, hb, Option.elim, r1, Out.result, GStep.after, stepG.apply, Frame.finish]

/-- A round that ends: it goes on (the caller hears true), or leaves by a jump (the caller hears false). -/
theorem Regime.roundEnd (hS : Regime P main S) {l : Nat} {L : Loop} {c : Frame} (hb : b.round = some l) (hkd : b.kind = .normal) (hg : HG h l (.loop L)) (ho : Own h l)
    (hk : S (h.upd l (.loop { L with state := .ready, pending := none })) (G (c.finish (.bool true)) cs)) : S h (G (b.fr E ds []) (c :: cs)) := by
  refine hS.step h _ rfl fun w hfit => ?_
  have h1 : wps P (Instr.endRound l none) h (fun o h' => h' = h.upd l (.loop { L with state := .ready, pending := none }) ∧ o = .ok (.bool true)) := by
    unfold Instr.endRound Instr.getLoop
    refine wps_bind' (wps_bind' ⟨_, hg, rfl, ?_⟩)
    refine wps_pure ?_
    refine wps_bind' ⟨ho, _, hg, rfl, rfl, ?_⟩
    exact wps_pure ⟨rfl, rfl⟩
  obtain ⟨out, w1, h', new, r1, ⟨rfl, rfl⟩, t1⟩ := wps_run (P := P) _ h w #[] hfit h1
  rw [Array.empty_append] at r1
  refine ⟨G (c.finish (.bool true)) cs, w1, seen P b.fn new, _, ?_, rfl, { t1 with evs := fun e hx => t1.evs e (seen_mem hx) }, hk⟩
  simp [-Sem.runT_eq, G, stepG, stepG.exec, Base.fr, hb, r1, Out.result, GStep.after, doReturn, hkd]

theorem Regime.roundRet (hS : Regime P main S) {l : Nat} {L : Loop} {c : Frame} (hb : b.round = some l) (hkd : b.kind = .normal) (hg : HG h l (.loop L)) (ho : Own h l)
    (hk : S (h.upd l (.loop { L with state := .done, pending := some .ret })) (G (c.finish (.bool false)) cs)) : S h (G (b.fr E ds (.code .ret :: k)) (c :: cs)) := by
  refine hS.step h _ rfl fun w hfit => ?_
  have h1 : wps P (Instr.endRound l (some .ret)) h (fun o h' => h' = h.upd l (.loop { L with state := .done, pending := some .ret }) ∧ o = .ok (.bool false)) := by
    unfold Instr.endRound Instr.getLoop
    refine wps_bind' (wps_bind' ⟨_, hg, rfl, ?_⟩)
    refine wps_pure ?_
    refine wps_bind' ⟨ho, _, hg, rfl, rfl, ?_⟩
    exact wps_pure ⟨rfl, rfl⟩
  obtain ⟨out, w1, h', new, r1, ⟨rfl, rfl⟩, t1⟩ := wps_run (P := P) _ h w #[] hfit h1
  rw [Array.empty_append] at r1
  refine ⟨G (c.finish (.bool false)) cs, w1, seen P b.fn new, _, ?_, rfl, { t1 with evs := fun e hx => t1.evs e (seen_mem hx) }, hk⟩
  simp [-Sem.runT_eq, G, stepG, stepG.exec, Base.fr, hb, r1, Out.result, GStep.after, doReturn, hkd]

theorem Regime.endRange (hS : Regime P main S) {l : Nat} {L : Loop} (hg : HG h l (.loop L)) (ho : Own h l) (hr : L.state ≠ .busy)
    (hk : S (h.upd l (.loop { L with state := .exhausted })) (G (b.fr E ds ((L.pending.map Item.code).toList ++ k)) cs)) : S h (G (b.fr E ds (.endRangeFunc l :: k)) cs) := by
  refine hS.step h _ rfl fun w hfit => ?_
  have h1 : wps P (Instr.endLoop l) h (fun o h' => h' = h.upd l (.loop { L with state := .exhausted }) ∧ o = .ok L.pending) := by
    unfold Instr.endLoop Instr.getLoop
    refine wps_bind' (wps_bind' ⟨_, hg, rfl, ?_⟩)
    refine wps_pure ?_
    refine wps_pure ?_
    dsimp only
    have : (L.state == LoopState.busy) = false := by cases hs : L.state <;> simp_all
    simp only [this, Bool.false_eq_true, if_false]
    refine wps_bind' ⟨ho, _, hg, rfl, rfl, ?_⟩
    exact wps_pure ⟨rfl, rfl⟩
  obtain ⟨out, w1, h', new, r1, ⟨rfl, rfl⟩, t1⟩ := wps_run (P := P) _ h w #[] hfit h1
  rw [Array.empty_append] at r1
  refine ⟨G (b.fr E ds ((L.pending.map Item.code).toList ++ k)) cs, w1, seen P b.fn new, _, ?_, rfl, { t1 with evs := fun e hx => t1.evs e (seen_mem hx) }, hk⟩
  simp [-Sem.runT_eq, G, stepG, stepG.exec, Base.fr, r1, Out.result, GStep.after]

theorem finish_range {v : Value} {l : Nat} : (b.fr E ds (.inRangeFunc l :: k)).finish v = b.fr E ds (.endRangeFunc l :: k) := rfl

theorem round_eq {l : Nat} {fn : FuncId} {assign body : Code} {kd : CallKind} : Frame.round l fn (arr n E) assign body kd = (⟨fn, n, kd, some l⟩ : Base).fr E [] [.code assign, .beginRound, .code body] := rfl

/-- A call of yield: the round is entered. -/
theorem OpS.yield1 {l : Nat} {L : Loop} {x y : Operand} {v : Value} {p : Tmp} {tys : Array TypeId} {R : Value → LH → Prop} (hf : Ev b.n E x (.func (.yield l) #[] #[])) (hy : Ev b.n E y v) (hg : HG h l (.loop L)) (hp : L.params = #[p])
    (hc : ∀ c : Frame, (∀ v h', R v h' → S h' (G (c.finish v) cs)) → S h (G (Frame.round l L.fn (L.tmps.setIfInBounds p v) L.assign L.body .normal) (c :: cs))) (hk : ∀ v h', R v h' → K (putE E dst v) ds h') :
    OpS P S b cs ops ⟨dst, .call { callee := .value x, args := #[y], argTypes := tys }, ty, pos, after, none⟩ E ds h K := by
  refine OpS.of rfl ?_
  simp only [Ev] at hf hy
  simp only [execOp, resolve, hf, Deferred.ofValue, List.map_toArray, List.map_cons, List.map_nil, hy]
  refine wps_bind' (wps_pure ?_)
  dsimp only [invoke]
  unfold Instr.yield Instr.getLoop
  refine wps_bind' (wps_bind' ⟨_, hg, rfl, ?_⟩)
  refine wps_pure ?_
  refine wps_pure ?_
  simp only [hp]
  rw [if_neg (by simp)]
  refine wps_pure ?_
  intro c h1 h2
  have := hc c (fun v h' hv => h1 v h' (hk v h' hv))
  simpa using this
end
end Go.SL
/-
  The calculus of local heaps, part eight: the side conditions of the rules as classes, so that they are found by search.
-/
namespace Go.SL
open Go.Conc (G)

class GtC (a b : Nat) : Prop where out : a < b
instance gtI {a k : Nat} : GtC a (k + a + 1) := ⟨by omega⟩
class NeqC (a b : Nat) : Prop where out : a ≠ b
instance neL {a b : Nat} [h : GtC a b] : NeqC a b := ⟨Nat.ne_of_lt h.out⟩
instance neG {a b : Nat} [h : GtC b a] : NeqC a b := ⟨Nat.ne_of_gt h.out⟩

class NthC (l : List Value) (i : Nat) (v : outParam Value) : Prop where out : Nth l i v
instance nthH {l : List Value} {v : Value} : NthC (v :: l) 0 v := ⟨Nth.hit⟩
instance nthM {l : List Value} {i : Nat} {x v : Value} [p : NthC l i v] : NthC (x :: l) (i + 1) v := ⟨Nth.miss p.out⟩

class LookC (E : Env) (t : Nat) (v : outParam Value) : Prop where out : Look E t v
/-- .. with the number first: so that one step of the search passes one value. -/
class Lk (t : Nat) (E : Env) (v : outParam Value) : Prop where out : Look E t v
instance (priority := 2000) lkH {E : Env} {d : Nat} {v : Value} : Lk d (putE E (some d) v) v := ⟨Look.hit⟩
instance (priority := 1500) lkL {E : Env} {t k : Nat} {v w : Value} [p : Lk t E v] : Lk t (putE E (some (k + t + 1)) w) v := ⟨Look.miss p.out (by omega)⟩
instance lkG {E : Env} {d t : Nat} {v w : Value} [h : GtC d t] [p : Lk t E v] : Lk t (putE E (some d) w) v := ⟨Look.miss p.out (Nat.ne_of_gt h.out)⟩
instance (priority := 2000) lkS {E : Env} {t : Nat} {v w : Value} [p : Lk t E v] : Lk t (putE E none w) v := ⟨Look.skip p.out⟩
instance lkB {l : List Value} {t : Nat} {v : Value} [p : NthC l t v] : Lk t (ofL l) v := ⟨Look.base p.out⟩
instance (priority := low) lkV {E : Env} {t : Nat} {v : Value} [p : LookC E t v] : Lk t E v := ⟨p.out⟩
instance lookP {E : Env} {d : Option Tmp} {t : Nat} {v w : Value} [p : Lk t (putE E d w) v] : LookC (putE E d w) t v := ⟨p.out⟩
instance lookB {l : List Value} {t : Nat} {v : Value} [p : NthC l t v] : LookC (ofL l) t v := ⟨Look.base p.out⟩

class EvC (n : Nat) (E : Env) (x : Operand) (v : outParam Value) : Prop where out : Ev n E x v
instance evT {n : Nat} {E : Env} {t : Nat} {v : Value} [h : GtC t n] [p : Lk t E v] : EvC n E (.tmp t) v := ⟨Ev.tmp p.out h.out⟩
instance evK {n : Nat} {E : Env} {v : Value} : EvC n E (.const v) v := ⟨Ev.const⟩
instance evG {n : Nat} {E : Env} {g : Nat} : EvC n E (.global g) (.pointer (some ⟨g, 0, none⟩)) := ⟨Ev.global⟩
instance evF {n : Nat} {E : Env} {f : FuncId} : EvC n E (.func f) (.func (.func f) #[] (List.toArray [])) := ⟨Ev.func⟩

class EvLC (n : Nat) (E : Env) (xs : List Operand) (vs : outParam (List Value)) : Prop where out : EvL n E xs vs
instance evN {n : Nat} {E : Env} : EvLC n E [] [] := ⟨EvL.nil⟩
instance evC {n : Nat} {E : Env} {x : Operand} {xs : List Operand} {v : Value} {vs : List Value} [p : EvC n E x v] [q : EvLC n E xs vs] : EvLC n E (x :: xs) (v :: vs) := ⟨EvL.cons p.out q.out⟩
class EvPC (n : Nat) (E : Env) (xs : List (Nat × Operand)) (vs : outParam (List (Nat × Value))) : Prop where out : xs.map (fun p => (p.1, ev n E p.2)) = vs
instance evPN {n : Nat} {E : Env} : EvPC n E [] [] := ⟨rfl⟩
instance evPCo {n i : Nat} {E : Env} {x : Operand} {xs : List (Nat × Operand)} {v : Value} {vs : List (Nat × Value)} [p : EvC n E x v] [q : EvPC n E xs vs] : EvPC n E ((i, x) :: xs) ((i, v) :: vs) := ⟨by simp only [List.map_cons, q.out]; rw [show ev n E x = v from p.out]⟩

/-- Block b was not there in the local heap h (when it was made). -/
class FreshAt (h : outParam LH) (b : Nat) : Prop where out : h.get b = none
class NeB (b c : Nat) : Prop where out : b ≠ c
/-- What the local heap h' adds to. -/
class ExtC (h : outParam LH) (h' : LH) : Prop where out : Ext h h'
/-- A fact that is given at a local heap. -/
class HgAt (h : outParam LH) (b : Nat) (o : outParam Obj) : Prop where out : HG h b o
class HGC (h : LH) (b : Nat) (o : outParam Obj) : Prop where out : HG h b o
instance (priority := high) hgH {h : LH} {b : Nat} {o : Obj} : HGC (h.upd b o) b o := ⟨HG.hit⟩
instance hgM {h : LH} {b c : Nat} {o o' : Obj} [q : NeB b c] [p : HGC h b o] : HGC (h.upd c o') b o := ⟨HG.ne p.out q.out⟩
instance hgX {h h' : LH} {b : Nat} {o : Obj} [q : ExtC h h'] [p : HGC h b o] : HGC h' b o := ⟨HG.ext p.out q.out⟩
/-- Block b is there. -/
class DomC (h : LH) (b : Nat) : Prop where out : h.get b ≠ none
instance (priority := high) domH {h : LH} {b : Nat} {o : Obj} : DomC (h.upd b o) b := ⟨by simp [LH.upd]⟩
instance domM {h : LH} {b c : Nat} {o : Obj} [p : DomC h b] : DomC (h.upd c o) b := ⟨by
  have := p.out
  simp only [LH.upd]; split <;> simp_all⟩
instance domX {h h' : LH} {b : Nat} [q : ExtC h h'] [p : DomC h b] : DomC h' b := ⟨by
  cases hg : h.get b with
  | none => exact absurd hg p.out
  | some o => rw [q.out.get _ _ hg]; simp⟩
instance (priority := low) domG {h : LH} {b : Nat} {o : Obj} [p : HGC h b o] : DomC h b := ⟨by have := p.out; simp only [HG] at this; rw [this]; simp⟩
instance neFA {h : LH} {b c : Nat} [q : FreshAt h c] [p : DomC h b] : NeB b c := ⟨fun e => by subst e; exact p.out q.out⟩
instance neFB {h : LH} {b c : Nat} [q : FreshAt h b] [p : DomC h c] : NeB b c := ⟨fun e => by subst e; exact p.out q.out⟩
class OwnC (h : LH) (b : Nat) : Prop where out : Own h b
instance (priority := high) ownH {h : LH} {b : Nat} {o : Obj} : OwnC (h.upd b o) b := ⟨Own.hit⟩
instance ownM {h : LH} {b c : Nat} {o : Obj} [p : OwnC h b] : OwnC (h.upd c o) b := ⟨Own.miss p.out⟩
instance ownX {h h' : LH} {b : Nat} [q : ExtC h h'] [p : OwnC h b] : OwnC h' b := ⟨Own.ext p.out q.out⟩

/-- Block b was not there in the elder local heap h₀. -/
class Fresh0 (h₀ : LH) (b : Nat) : Prop where out : h₀.get b = none
/-- h is h₀, and more. -/
class Ext0 (h₀ h : LH) : Prop where out : Ext h₀ h
instance (priority := high) e0R {h : LH} : Ext0 h h := ⟨Ext.refl h⟩
instance e0U {h₀ h : LH} {b : Nat} {o : Obj} [q : Fresh0 h₀ b] [p : Ext0 h₀ h] : Ext0 h₀ (h.upd b o) := ⟨Ext.upd' p.out q.out⟩
instance e0X {h₀ h h' : LH} [q : ExtC h h'] [p : Ext0 h₀ h] : Ext0 h₀ h' := ⟨p.out.trans q.out⟩
instance f0I {h₀ h : LH} {b : Nat} [q : FreshAt h b] [p : Ext0 h₀ h] : Fresh0 h₀ b := ⟨fresh_of q.out p.out⟩
instance (priority := low) hgAt {h₀ h : LH} {b : Nat} {o : Obj} [p : HgAt h₀ b o] [q : Ext0 h₀ h] : HGC h b o := ⟨HG.ext p.out q.out⟩

class SubC (l : List Value) (off n : Nat) (l' : outParam (List Value)) : Prop where out : SubL l off n l'
instance sub0 {l : List Value} : SubC l 0 0 [] := ⟨SubL.nil⟩
instance subT {l l' : List Value} {x : Value} {n : Nat} [p : SubC l 0 n l'] : SubC (x :: l) 0 (n + 1) (x :: l') := ⟨SubL.take p.out⟩
instance subD {l l' : List Value} {x : Value} {off n : Nat} [p : SubC l off n l'] : SubC (x :: l) (off + 1) n l' := ⟨SubL.drop p.out⟩
class WrC (c : List Value) (off : Nat) (l : List Value) (c'' : outParam (List Value)) : Prop where out : Wr c off l c''
instance wr0 {c : List Value} : WrC c 0 [] c := ⟨Wr.nil⟩
instance wrH {c l c'' : List Value} {x y : Value} [p : WrC c 0 l c''] : WrC (x :: c) 0 (y :: l) (y :: c'') := ⟨Wr.here p.out⟩
instance wrT {c l c'' : List Value} {x : Value} {off : Nat} [p : WrC c off l c''] : WrC (x :: c) (off + 1) l (x :: c'') := ⟨Wr.there p.out⟩

class SlC (h : LH) (sz : outParam Nat) (v : Value) (xs : outParam (List (List Value))) : Prop where out : SlE h sz v xs
/-- A slice's reading that is given at a local heap. -/
class SlAt (h : outParam LH) (sz : outParam Nat) (v : Value) (xs : outParam (List (List Value))) : Prop where out : SlE h sz v xs
instance slA {h₀ h : LH} {sz : Nat} {v : Value} {xs : List (List Value)} [p : SlAt h₀ sz v xs] [q : Ext0 h₀ h] : SlC h sz v xs := ⟨p.out.ext q.out⟩
class ElC (xs : List (List Value)) (i : Nat) (cs : outParam (List Value)) : Prop where out : xs[i]? = some cs
class NatC (z : Int) (i : outParam Nat) : Prop where out : z = (i : Nat)
instance natI {i : Nat} : NatC (i : Int) i := ⟨rfl⟩
instance nat0 : NatC 0 0 := ⟨rfl⟩

class SingleC (v : Value) : Prop where out : Value.single v = true
instance sg1 {b : Bool} : SingleC (.bool b) := ⟨rfl⟩
instance sg2 {k : IntKind} {z : Int} : SingleC (.int k z) := ⟨rfl⟩
instance sg3 {s : ByteArray} : SingleC (.string s) := ⟨rfl⟩
instance sg4 {a : Option Addr} : SingleC (.pointer a) := ⟨rfl⟩
instance sg5 {a : Option Addr} {n c : Nat} : SingleC (.slice a n c) := ⟨rfl⟩
instance sg6 {a : Option Nat} : SingleC (.map a) := ⟨rfl⟩
instance sg7 {a : Option Nat} : SingleC (.chan a) := ⟨rfl⟩
instance sg8 {f : Fn} {a b : Array Value} : SingleC (.func f a b) := ⟨rfl⟩
instance sg9 : SingleC .nilFunc := ⟨rfl⟩
instance sg10 : SingleC .nilIface := ⟨rfl⟩
instance sg11 {t : TypeId} {v : Value} : SingleC (.iface t v) := ⟨rfl⟩
class SglC (l : List Value) : Prop where out : Sgl l
instance sglN : SglC [] := ⟨Sgl.nil⟩
instance sglCo {v : Value} {l : List Value} [p : SingleC v] [q : SglC l] : SglC (v :: l) := ⟨Sgl.cons p.out q.out⟩
class CellsC (v : Value) (l : outParam (List Value)) : Prop where out : v.cells = l.toArray
instance (priority := high) ceA {l : List Value} : CellsC (.agg l.toArray) l := ⟨rfl⟩
instance ceS {v : Value} [p : SingleC v] : CellsC v [v] := ⟨cells_single p.out⟩

class AgC (P : Program) (t : TypeId) (r : outParam Bool) : Prop where out : agB P t = some r
class SzC (P : Program) (t : TypeId) (n : outParam Nat) : Prop where out : szB P t = some n
class ZrC (P : Program) (t : TypeId) (l : outParam (List Value)) : Prop where out : zrL P t = some l
class FdC (P : Program) (s : TypeId) (i : Nat) (ft : outParam TypeId) (fo : outParam Nat) : Prop where out : fdB P s i = some (ft, fo)
class UlC (P : Program) (t : TypeId) (d : outParam TypeDesc) : Prop where out : P.underlying t = some d
class FsC (P : Program) (t : TypeId) : Prop where out : allSz P t = true
class GoC (P : Program) (f : FuncId) : Prop where out : isGo P f = true

class FillCC (P : Program) (t : TypeId) (z : List Value) (ps : List (Nat × Value)) (c : outParam (List Value)) : Prop where out : FillC P t z ps c
instance fiN {P : Program} {t : TypeId} {z : List Value} : FillCC P t z [] z := ⟨.nil⟩
class LenC (l : List Value) (n : Nat) : Prop where out : l.length = n
instance lenN : LenC [] 0 := ⟨rfl⟩
instance lenS {v : Value} {l : List Value} {n : Nat} [p : LenC l n] : LenC (v :: l) (n + 1) := ⟨by simp [p.out]⟩
instance fiC {P : Program} {t ft : TypeId} {z l z' z'' : List Value} {i off n : Nat} {v : Value} {rest : List (Nat × Value)} [hf : FdC P t i ft off] [hl : CellsC v l] [hz : SzC P ft n] [hn : LenC l n] [hw : WrC z off l z'] [p : FillCC P t z' rest z''] : FillCC P t z ((i, v) :: rest) z'' :=
  ⟨.cons hf.out hl.out (by rw [hn.out]; exact hz.out) hw.out p.out⟩

/-- The sum, or the like, stays within int64. -/
class NoW (z : Int) : Prop where out : IntKind.i64.wrap z = z
theorem NoW.of {z : Int} (h1 : -9223372036854775808 ≤ z) (h2 : z ≤ 9223372036854775807) : NoW z := ⟨wrap_in h1 h2⟩
/-- The number, as it is wrapped. -/
class WrapC (z : Int) (r : outParam Int) : Prop where out : IntKind.i64.wrap z = r
instance (priority := high) wrapN {z : Int} [p : NoW z] : WrapC z z := ⟨p.out⟩
instance (priority := low) wrapW {z : Int} : WrapC z (IntKind.i64.wrap z) := ⟨rfl⟩

class SameC (a b : Nat) : Prop where out : a = b
instance sameI {a : Nat} : SameC a a := ⟨rfl⟩
class PopC (P : Program) (n : Nat) (E : Env) (h : LH) (op : Op) (ty : TypeId) (v : outParam Value) : Prop where out : Pop P n E h op ty v
section
variable {P : Program} {n : Nat} {E : Env} {h : LH} {ty : TypeId}
instance pMove {x : Operand} {v : Value} [p : EvC n E x v] : PopC P n E h (.move x) ty v := ⟨Pop.move p.out⟩
instance pAssign {x : Operand} {v : Value} [p : EvC n E x v] : PopC P n E h (.assign x) ty v := ⟨Pop.assign p.out⟩
instance pNil {x : Operand} {a : Addr} [p : EvC n E x (.pointer (some a))] : PopC P n E h (.nilCheck x) ty (.pointer (some a)) := ⟨Pop.nilCheck p.out⟩
/-- What a load yields, by whether the type is a struct's, at an address. -/
class LdC (P : Program) (h : LH) (t : TypeId) (agg : Bool) (a : Value) (v : outParam Value) : Prop where out : ∀ (n : Nat) (E : Env) (x : Operand) (ty : TypeId), agB P t = some agg → Ev n E x a → Pop P n E h (.load t x) ty v
instance ldS {t : TypeId} {b off : Nat} {c : List Value} {e : TypeId} {f : Nat × Nat} {v : Value} [hg : HGC h b (.cells c.toArray e f)] [hv : NthC c off v] : LdC P h t false (.pointer (some ⟨b, off, none⟩)) v := ⟨fun _ _ _ _ ht hx => Pop.loadS ht hx hg.out hv.out⟩
instance ldA {t : TypeId} {b off sz : Nat} {c c' : List Value} {e : TypeId} {f : Nat × Nat} [hz : SzC P t sz] [hg : HGC h b (.cells c.toArray e f)] [hv : SubC c off sz c'] : LdC P h t true (.pointer (some ⟨b, off, none⟩)) (.agg c'.toArray) := ⟨fun _ _ _ _ ht hx => Pop.loadA ht hz.out hx hg.out hv.out⟩
instance ldES {t : TypeId} {v w : Value} {sz i fo : Nat} {xs : List (List Value)} {cs : List Value} [hs : SlC h sz v xs] [hxs : ElC xs i cs] [hv : NthC cs fo w] : LdC P h t false (elemPtr v sz i fo) w := ⟨fun _ _ _ _ ht hx => Pop.loadElS ht hx hs.out hxs.out hv.out⟩
instance ldEA {t : TypeId} {v : Value} {sz i fo m : Nat} {xs : List (List Value)} {cs cs' : List Value} [hz : SzC P t m] [hs : SlC h sz v xs] [hxs : ElC xs i cs] [hv : SubC cs fo m cs'] : LdC P h t true (elemPtr v sz i fo) (.agg cs'.toArray) := ⟨fun _ _ _ _ ht hx => Pop.loadElA ht hz.out hx hs.out hxs.out hv.out⟩
/-- A whole element. -/
instance (priority := high) ldEW {t : TypeId} {v : Value} {sz i m : Nat} {xs : List (List Value)} {cs : List Value} [hz : SzC P t m] [hs : SlC h sz v xs] [hm : SameC sz m] [hxs : ElC xs i cs] : LdC P h t true (elemPtr v sz i 0) (.agg cs.toArray) := ⟨fun _ _ _ _ ht hx => by
  have hl : cs.length = m := by
    obtain ⟨a, cap, rfl, hcap, he⟩ := hs.out
    obtain ⟨b, off, c, e, f, _, _, hl, _⟩ := he i cs hxs.out
    rw [hl, hm.out]
  exact Pop.loadElA ht hz.out hx hs.out hxs.out (SubL.all hl)⟩
instance pLoad {t : TypeId} {x : Operand} {a v : Value} {agg : Bool} [ht : AgC P t agg] [hx : EvC n E x a] [p : LdC P h t agg a v] : PopC P n E h (.load t x) ty v := ⟨p.out n E x ty ht.out hx.out⟩
class FaC (P : Program) (h : LH) (s : TypeId) (i : Nat) (a : Value) (v : outParam Value) : Prop where out : ∀ (n : Nat) (E : Env) (x : Operand) (ty : TypeId), Ev n E x a → Pop P n E h (.fieldAddr s x i) ty v
class PosC (n : Nat) : Prop where out : ∃ m, n = m + 1
instance posI {m : Nat} : PosC (m + 1) := ⟨⟨m, rfl⟩⟩
class AddC (a b : Nat) (c : outParam Nat) : Prop where out : a + b = c
instance (priority := high) addZ {a : Nat} : AddC a 0 a := ⟨rfl⟩
instance addL {b : Nat} : AddC 0 b b := ⟨Nat.zero_add b⟩
instance (priority := low) addG {a b : Nat} : AddC a b (a + b) := ⟨rfl⟩
instance faB {s ft : TypeId} {b off i fo sz o' : Nat} [hf : FdC P s i ft fo] [hz : SzC P ft sz] [hp : PosC sz] [ho : AddC off fo o'] : FaC P h s i (.pointer (some ⟨b, off, none⟩)) (.pointer (some ⟨b, o', none⟩)) :=
  ⟨fun _ _ _ _ hx => by obtain ⟨m, hm⟩ := hp.out; rw [← ho.out]; exact Pop.fieldAddr hf.out (hm ▸ hz.out) hx⟩
instance faE {s ft : TypeId} {v : Value} {sz j fo i fo' s' o' : Nat} {xs : List (List Value)} {cs : List Value} [hf : FdC P s i ft fo'] [hz : SzC P ft s'] [hp : PosC s'] [hs : SlC h sz v xs] [hxs : ElC xs j cs] [ho : AddC fo fo' o'] : FaC P h s i (elemPtr v sz j fo) (elemPtr v sz j o') :=
  ⟨fun _ _ _ _ hx => by obtain ⟨m, hm⟩ := hp.out; rw [← ho.out]; exact Pop.fieldAddrEl hf.out (hm ▸ hz.out) hx hs.out hxs.out⟩
instance pFa {s : TypeId} {x : Operand} {i : Nat} {a v : Value} [hx : EvC n E x a] [p : FaC P h s i a v] : PopC P n E h (.fieldAddr s x i) ty v := ⟨p.out n E x ty hx.out⟩
instance pIx {t el : TypeId} {x ix : Operand} {v : Value} {sz i s : Nat} {kk : IntKind} {z : Int} {xs : List (List Value)} {cs : List Value} [hu : UlC P t (.slice el)] [hz : SzC P el sz] [hx : EvC n E x v] [hs : SlC h s v xs] [hi : EvC n E ix (.int kk z)] [hzi : NatC z i] [hxs : ElC xs i cs] :
    PopC P n E h (.indexAddr t x ix) ty (elemPtr v sz i 0) := ⟨by
  by_cases e : s = sz
  · subst e; exact Pop.indexAddr hu.out hz.out hx.out hs.out hi.out hzi.out hxs.out
  · have h0 := hs.out
    obtain ⟨a, cap, rfl, hcap, he⟩ := h0
    obtain ⟨b, off, c, e', f, rfl, hg, hl, hle, hcs⟩ := he i cs hxs.out
    intro dst pos after guard h' hxt
    have hlt : i < xs.length := (List.getElem?_eq_some_iff.1 hxs.out).1
    have hx' := hx.out; have hi' := hi.out
    simp only [Ev] at hx' hi'
    simp only [execOp, hx', hi', hzi.out]
    refine wps_v (v := elemPtr (.slice (some ⟨b, off, none⟩) xs.length cap) sz i 0) ?_ ⟨rfl, rfl⟩
    refine wps_bind' (wps_pure ?_)
    refine wps_bind' (wps_underlying hu.out ?_)
    dsimp only
    refine wps_bind' (wps_pure ?_)
    dsimp only
    refine wps_bind' (wps_underlying hu.out ?_)
    dsimp only
    rw [if_pos ⟨by omega, by omega⟩]
    refine wps_bind' (wps_sizeOf hz.out ?_)
    refine wps_pure ⟨rfl, ?_⟩
    simp [elemPtr, add_eq]⟩
instance pLen {t el : TypeId} {x : Operand} {v : Value} {sz : Nat} {xs : List (List Value)} [hu : UlC P t (.slice el)] [hx : EvC n E x v] [hs : SlC h sz v xs] : PopC P n E h (.call { callee := .builtin .len, args := #[x], argTypes := #[t] }) ty (.int .i64 xs.length) := ⟨Pop.len hu.out hx.out hs.out⟩
class BinC (op : BinOp) (a b : Value) (v : outParam Value) : Prop where out : ∀ (P : Program) (n : Nat) (E : Env) (h : LH) (t t' ty : TypeId) (x y : Operand), Ev n E x a → Ev n E y b → Pop P n E h (.binOp op t x y t') ty v
instance bAdd {a c r : Int} [w : WrapC (a + c) r] : BinC .add (.int .i64 a) (.int .i64 c) (.int .i64 r) := ⟨fun _ _ _ _ _ _ _ _ _ hx hy => by rw [← w.out]; exact Pop.addW hx hy⟩
instance bSub {a c r : Int} [w : WrapC (a - c) r] : BinC .sub (.int .i64 a) (.int .i64 c) (.int .i64 r) := ⟨fun _ _ _ _ _ _ _ _ _ hx hy => by rw [← w.out]; exact Pop.subW hx hy⟩
instance bMul {a c r : Int} [w : WrapC (a * c) r] : BinC .mul (.int .i64 a) (.int .i64 c) (.int .i64 r) := ⟨fun _ _ _ _ _ _ _ _ _ hx hy => by rw [← w.out]; exact Pop.mulW hx hy⟩
instance bLss {k : IntKind} {a c : Int} : BinC .lss (.int k a) (.int k c) (.bool (decide (a < c))) := ⟨fun _ _ _ _ _ _ _ _ _ hx hy => Pop.lss hx hy⟩
instance bLeq {k : IntKind} {a c : Int} : BinC .leq (.int k a) (.int k c) (.bool (decide (a ≤ c))) := ⟨fun _ _ _ _ _ _ _ _ _ hx hy => Pop.leq hx hy⟩
instance bGtr {k : IntKind} {a c : Int} : BinC .gtr (.int k a) (.int k c) (.bool (decide (a > c))) := ⟨fun _ _ _ _ _ _ _ _ _ hx hy => Pop.gtr hx hy⟩
instance bGeq {k : IntKind} {a c : Int} : BinC .geq (.int k a) (.int k c) (.bool (decide (a ≥ c))) := ⟨fun _ _ _ _ _ _ _ _ _ hx hy => Pop.geq hx hy⟩
instance bEql {k : IntKind} {a c : Int} : BinC .eql (.int k a) (.int k c) (.bool (a == c)) := ⟨fun _ _ _ _ _ _ _ _ _ hx hy => Pop.eql hx hy⟩
instance bNeq {k : IntKind} {a c : Int} : BinC .neq (.int k a) (.int k c) (.bool (a != c)) := ⟨fun _ _ _ _ _ _ _ _ _ hx hy => Pop.neq hx hy⟩
instance pBin {op : BinOp} {t t' : TypeId} {x y : Operand} {a b v : Value} [hx : EvC n E x a] [hy : EvC n E y b] [p : BinC op a b v] : PopC P n E h (.binOp op t x y t') ty v := ⟨p.out P n E h t t' ty x y hx.out hy.out⟩
instance pNot {t : TypeId} {x : Operand} {t' : Bool} [hx : EvC n E x (.bool t')] : PopC P n E h (.unOp .not t x) ty (.bool (!t')) := ⟨Pop.not hx.out⟩
instance pMax {t1 t2 : TypeId} {x y : Operand} {k : IntKind} {a c : Int} [hx : EvC n E x (.int k a)] [hy : EvC n E y (.int k c)] : PopC P n E h (.call { callee := .builtin .max, args := #[x, y], argTypes := #[t1, t2] }) ty (.int k (Max.max a c)) := ⟨Pop.max hx.out hy.out⟩
instance pMin {t1 t2 : TypeId} {x y : Operand} {k : IntKind} {a c : Int} [hx : EvC n E x (.int k a)] [hy : EvC n E y (.int k c)] : PopC P n E h (.call { callee := .builtin .min, args := #[x, y], argTypes := #[t1, t2] }) ty (.int k (Min.min a c)) := ⟨Pop.min hx.out hy.out⟩
instance pMkf {fn : Fn} {cap : List Operand} {vs : List Value} [hc : EvLC n E cap vs] : PopC P n E h (.makeFunc fn #[] cap.toArray) ty (.func fn #[] vs.toArray) := ⟨Pop.makeFunc hc.out⟩
instance pExt {x : Operand} {i : Nat} {l : List Value} {v : Value} [hx : EvC n E x (.tuple l.toArray)] [hv : NthC l i v] : PopC P n E h (.extract x i) ty v := ⟨Pop.extract hx.out hv.out⟩
instance pBuild {t : TypeId} {ps : List (Nat × Operand)} {vs : List (Nat × Value)} {z c : List Value} [hu : FsC P t] [hz : ZrC P t z] [hv : EvPC n E ps vs] [hf : FillCC P t z vs c] : PopC P n E h (.build t ps.toArray) ty (.agg c.toArray) := ⟨Pop.build hu.out hz.out hv.out hf.out⟩
/-- A test's outcome that is known. -/
class IsC (t : Bool) (r : outParam Bool) : Prop where out : t = r
instance isT : IsC true true := ⟨rfl⟩
instance isF : IsC false false := ⟨rfl⟩
class PickC (t : Bool) (v w : Operand) (n : Nat) (E : Env) (u : outParam Value) : Prop where out : (if t then ev n E v else ev n E w) = u
instance pkT {v w : Operand} {u : Value} [p : EvC n E v u] : PickC true v w n E u := ⟨p.out⟩
instance pkF {v w : Operand} {u : Value} [p : EvC n E w u] : PickC false v w n E u := ⟨p.out⟩
instance pPick {c x y : Operand} {t r : Bool} {u : Value} [hc : EvC n E c (.bool t)] [hr : IsC t r] [p : PickC r x y n E u] : PopC P n E h (.pick c x y) ty u := ⟨by
  have := Pop.pick (P := P) (h := h) (ty := ty) (v := ev n E x) (w := ev n E y) hc.out rfl rfl
  rw [hr.out, p.out] at this; exact this⟩
end
end Go.SL
namespace Go.SL
open Go.Conc (G)

class DstC (l : List Oper) (j : Nat) (d : outParam Nat) : Prop where out : (l.toArray[j]?).bind (·.dst) = some d
instance dstH {d : Nat} {op : Op} {ty : TypeId} {pos : String} {after : Array Edge} {g : Option (Nat × Bool)} {l : List Oper} : DstC (⟨some d, op, ty, pos, after, g⟩ :: l) 0 d := ⟨rfl⟩
instance dstM {o : Oper} {l : List Oper} {j d : Nat} [p : DstC l j d] : DstC (o :: l) (j + 1) d := ⟨by simpa using p.out⟩
class EqbC (s w : Bool) (r : outParam Bool) : Prop where out : (s == w) = r
instance eqTT : EqbC true true true := ⟨rfl⟩
instance eqTF : EqbC true false false := ⟨rfl⟩
instance eqFT : EqbC false true false := ⟨rfl⟩
instance eqFF : EqbC false false true := ⟨rfl⟩
class GrdC (l : List Oper) (n : Nat) (E : Env) (j : Nat) (want : Bool) (r : outParam Bool) : Prop where
  out : ∀ (dst : Option Tmp) (op : Op) (ty : TypeId) (pos : String) (after : Array Edge), Region.wanted ⟨dst, op, ty, pos, after, some (j, want)⟩ (yielded l.toArray (arr n E)) = r
instance grdI {l : List Oper} {n : Nat} {E : Env} {j d : Nat} {want t s r : Bool} [hj : DstC l j d] [hd : GtC d n] [he : LookC E d (.bool t)] [ht : IsC t s] [hr : EqbC s want r] : GrdC l n E j want r :=
  ⟨fun _ _ _ _ _ => by rw [wanted_of hj.out hd.out he.out, ht.out, hr.out]⟩
class AppC (a b : List Value) (c : outParam (List Value)) : Prop where out : a ++ b = c
instance appN {b : List Value} : AppC [] b b := ⟨rfl⟩
instance appC {v : Value} {a b c : List Value} [p : AppC a b c] : AppC (v :: a) b (v :: c) := ⟨by simp [p.out]⟩

/-- A function that returns v and leaves what is known as it is. -/
class FnC (P : Program) (f : FuncId) (args : List Value) (h : LH) (v : outParam Value) : Prop where out : Con P f args h (fun r h' => r = v ∧ Ext h h')

section
variable {P : Program} {main : Bool} {S : LH → Goroutine → Prop} {b : Base} {E : Env} {ds : List Deferred} {k : List Item} {cs : List Frame} {h : LH} {n : Nat}
variable {dst : Option Tmp} {ty : TypeId} {pos : String} {after : Array Edge} {l : List Oper} {Fin : Env → List Deferred → LH → Prop} {os : List Oper} {op : Op}

theorem OpS.nd (hd : Op.isDefer op = false) (c : Call) : op ≠ .defer c := fun e => by subst e; cases hd

theorem W.pop {v : Value} [p : PopC P b.n E h op ty v] (hk : WL P S b cs l.toArray Fin os (putE E dst v) ds h) (hd : Op.isDefer op = false := by rfl) : WL P S b cs l.toArray Fin (⟨dst, op, ty, pos, after, none⟩ :: os) E ds h := OpS.pop p.out hd hk
theorem W.yes {j : Nat} {want : Bool} [g : GrdC l b.n E j want true] (hk : WL P S b cs l.toArray Fin (⟨dst, op, ty, pos, after, none⟩ :: os) E ds h) : WL P S b cs l.toArray Fin (⟨dst, op, ty, pos, after, some (j, want)⟩ :: os) E ds h := OpS.guardT (g.out _ _ _ _ _) hk
theorem W.no {j : Nat} {want : Bool} [g : GrdC l b.n E j want false] (hk : WL P S b cs l.toArray Fin os (putE E dst undef) ds h) (hd : Op.isDefer op = false := by rfl) : WL P S b cs l.toArray Fin (⟨dst, op, ty, pos, after, some (j, want)⟩ :: os) E ds h := OpS.not hd (g.out _ _ _ _ _) hk
theorem W.split {j d : Nat} {want t : Bool} [_hj : DstC l j d] [_he : LookC E d (.bool t)] (hT : IsC t true → WL P S b cs l.toArray Fin (⟨dst, op, ty, pos, after, some (j, want)⟩ :: os) E ds h)
    (hF : IsC t false → WL P S b cs l.toArray Fin (⟨dst, op, ty, pos, after, some (j, want)⟩ :: os) E ds h) : WL P S b cs l.toArray Fin (⟨dst, op, ty, pos, after, some (j, want)⟩ :: os) E ds h := by
  cases ht : t
  · exact hF ⟨ht⟩
  · exact hT ⟨ht⟩
theorem W.box {t : TypeId} {x : Operand} {v : Value} {c : List Value} [hx : EvC b.n E x v] [hl : CellsC v c] (hk : ∀ p, FreshAt h p → WL P S b cs l.toArray Fin os (putE E dst (.pointer (some ⟨p, 0, none⟩))) ds (h.upd p (.cells c.toArray t (0, 0)))) :
    WL P S b cs l.toArray Fin (⟨dst, .box t x, ty, pos, after, none⟩ :: os) E ds h := OpS.box hx.out hl.out fun p hp => hk p ⟨hp⟩
theorem W.alloc {t : TypeId} {c : List Value} [hz : ZrC P t c] (hk : ∀ p, FreshAt h p → WL P S b cs l.toArray Fin os (putE E dst (.pointer (some ⟨p, 0, none⟩))) ds (h.upd p (.cells c.toArray t (0, 0)))) :
    WL P S b cs l.toArray Fin (⟨dst, .alloc t, ty, pos, after, none⟩ :: os) E ds h := OpS.alloc hz.out fun p hp => hk p ⟨hp⟩
theorem W.store {t e : TypeId} {x y : Operand} {p off m : Nat} {c c' c'' : List Value} {v : Value} [hx : EvC b.n E x (.pointer (some ⟨p, off, none⟩))] [hy : EvC b.n E y v] [hl : CellsC v c'] [hz : SzC P t m] [hn : LenC c' m] [hs : SglC c'] [ho : OwnC h p]
    [hg : HGC h p (.cells c.toArray e (0, 0))] [hw : WrC c off c' c''] (hk : WL P S b cs l.toArray Fin os (putE E dst undef) ds (h.upd p (.cells c''.toArray e (0, 0)))) :
    WL P S b cs l.toArray Fin (⟨dst, .store t x y, ty, pos, after, none⟩ :: os) E ds h := OpS.store hx.out hy.out hl.out (by rw [hn.out]; exact hz.out) hs.out ho.out hg.out hw.out hk
theorem W.call {f : FuncId} {x : Operand} {cap args full : List Value} {xs : List Operand} {tys : Array TypeId} {R : Value → LH → Prop} (hS : Regime P main S) [hf : EvC b.n E x (.func (.func f) #[] cap.toArray)] [hgo : GoC P f] [ha : EvLC b.n E xs args] [hap : AppC args cap full]
    (hc : Con P f full h R) (hk : ∀ v h', R v h' → WL P S b cs l.toArray Fin os (putE E dst v) ds h') :
    WL P S b cs l.toArray Fin (⟨dst, .call { callee := .value x, args := xs.toArray, argTypes := tys }, ty, pos, after, none⟩ :: os) E ds h := OpS.callC hS hf.out hgo.out ha.out (by rw [hap.out]; exact hc) hk
theorem W.fn {f : FuncId} {x : Operand} {cap args full : List Value} {xs : List Operand} {tys : Array TypeId} {v : Value} (hS : Regime P main S) [hf : EvC b.n E x (.func (.func f) #[] cap.toArray)] [hgo : GoC P f] [ha : EvLC b.n E xs args] [hap : AppC args cap full]
    [hc : FnC P f full h v] (hk : ∀ h', ExtC h h' → WL P S b cs l.toArray Fin os (putE E dst v) ds h') :
    WL P S b cs l.toArray Fin (⟨dst, .call { callee := .value x, args := xs.toArray, argTypes := tys }, ty, pos, after, none⟩ :: os) E ds h :=
  W.call hS hc.out fun _ h' hv => hv.1 ▸ hk h' ⟨hv.2⟩

/-! ### control -/
theorem R.cond (hS : Regime P main S) {c : Operand} {x y : Code} {t : Bool} [hc : EvC b.n E c (.bool t)] (ht : IsC t true → S h (G (b.fr E ds (.code x :: k)) cs)) (hf : IsC t false → S h (G (b.fr E ds (.code y :: k)) cs)) : S h (G (b.fr E ds (.code (.cond c x y) :: k)) cs) :=
  hS.cond hc.out (fun e => ht ⟨e⟩) (fun e => hf ⟨e⟩)
theorem R.condT (hS : Regime P main S) {c : Operand} {x y : Code} {t : Bool} [hc : EvC b.n E c (.bool t)] [hi : IsC t true] (ht : S h (G (b.fr E ds (.code x :: k)) cs)) : S h (G (b.fr E ds (.code (.cond c x y) :: k)) cs) :=
  hS.cond hc.out (fun _ => ht) (fun e => by rw [hi.out] at e; cases e)
theorem R.condF (hS : Regime P main S) {c : Operand} {x y : Code} {t : Bool} [hc : EvC b.n E c (.bool t)] [hi : IsC t false] (hf : S h (G (b.fr E ds (.code y :: k)) cs)) : S h (G (b.fr E ds (.code (.cond c x y) :: k)) cs) :=
  hS.cond hc.out (fun e => by rw [hi.out] at e; cases e) (fun _ => hf)

class ResC (P : Program) (n : Nat) (E : Env) (h : LH) (rs : List ResultVar) (vs : outParam (List Value)) : Prop where out : ResV P n E h rs vs
instance rsN {E : Env} : ResC P n E h [] [] := ⟨.nil⟩
instance rsT {E : Env} {t : Tmp} {v : Value} {rs : List ResultVar} {vs : List Value} [hl : LookC E t v] [ht : GtC t n] [p : ResC P n E h rs vs] : ResC P n E h (.tmp t :: rs) (v :: vs) := ⟨.tmp hl.out ht.out p.out⟩
class RsLdC (P : Program) (h : LH) (t : TypeId) (agg : Bool) (a : Value) (v : outParam Value) : Prop where
  out : ∀ (n : Nat) (E : Env) (x : Tmp) (rs : List ResultVar) (vs : List Value), agB P t = some agg → Look E x a → x < n → ResV P n E h rs vs → ResV P n E h (.cell x t :: rs) (v :: vs)
instance rsS {t : TypeId} {p off : Nat} {c : List Value} {e : TypeId} {f : Nat × Nat} {v : Value} [hg : HGC h p (.cells c.toArray e f)] [hv : NthC c off v] : RsLdC P h t false (.pointer (some ⟨p, off, none⟩)) v := ⟨fun _ _ _ _ _ ha hl ht q => .cellS ha hl ht hg.out hv.out q⟩
instance rsA {t : TypeId} {p off sz : Nat} {c c' : List Value} {e : TypeId} {f : Nat × Nat} [hz : SzC P t sz] [hg : HGC h p (.cells c.toArray e f)] [hv : SubC c off sz c'] : RsLdC P h t true (.pointer (some ⟨p, off, none⟩)) (.agg c'.toArray) := ⟨fun _ _ _ _ _ ha hl ht q => .cellA ha hz.out hl ht hg.out hv.out q⟩
instance rsC {E : Env} {x : Tmp} {t : TypeId} {agg : Bool} {a v : Value} {rs : List ResultVar} {vs : List Value} [ha : AgC P t agg] [hl : LookC E x a] [ht : GtC x n] [p : RsLdC P h t agg a v] [q : ResC P n E h rs vs] : ResC P n E h (.cell x t :: rs) (v :: vs) := ⟨p.out n E x rs vs ha.out hl.out ht.out q.out⟩

/-- Function f of the program, its results. -/
class FunC (P : Program) (f : FuncId) (rs : outParam (List ResultVar)) : Prop where out : ∃ fn, P.funcs[f]? = some fn ∧ fn.results = rs.toArray
theorem R.ret (hS : Regime P main S) {f : FuncId} {rs : List ResultVar} {vs : List Value} {c : Frame} [hf : FunC P f rs] [p : ResC P n E h rs vs] (hk : S h (G (c.finish (resOf vs)) cs)) : S h (G ((⟨f, n, .normal, none⟩ : Base).fr E [] (.code .ret :: k)) (c :: cs)) := by
  obtain ⟨fn, h1, h2⟩ := hf.out; exact hS.ret' h1 h2 p.out hk
theorem R.fin (hS : Regime P main S) {f : FuncId} {rs : List ResultVar} {vs : List Value} {c : Frame} [hf : FunC P f rs] [p : ResC P n E h rs vs] (hk : S h (G (c.finish (resOf vs)) cs)) : S h (G ((⟨f, n, .normal, none⟩ : Base).fr E [] []) (c :: cs)) := by
  obtain ⟨fn, h1, h2⟩ := hf.out; exact hS.fin' h1 h2 p.out hk

/-! ### regions that draw -/
theorem A.take {hd : List Nat} {fuel : Nat} {listed : Array Bool} {v : Value} (i : Nat) (hi : l.toArray[i]? = some ⟨dst, op, ty, pos, after, none⟩) [p : PopC P b.n E h op ty v] (hok : takeOk l.toArray hd listed i = true) (hsi : ∀ cs b, op ≠ .select cs b)
    (x : Any P S b cs l.toArray hd Fin fuel (listed.setIfInBounds i true) (putE E dst v) ds h) : Any P S b cs l.toArray hd Fin (fuel + 1) listed E ds h := Any.take hi hsi fuel listed E ds h hok (PopW.of p.out) x
theorem A.takeY {hd : List Nat} {fuel j : Nat} {want : Bool} {listed : Array Bool} {v : Value} (i : Nat) (hi : l.toArray[i]? = some ⟨dst, op, ty, pos, after, some (j, want)⟩) [g : GrdC l b.n E j want true] [p : PopC P b.n E h op ty v] (hok : takeOk l.toArray hd listed i = true) (hsi : ∀ cs b, op ≠ .select cs b)
    (x : Any P S b cs l.toArray hd Fin fuel (listed.setIfInBounds i true) (putE E dst v) ds h) : Any P S b cs l.toArray hd Fin (fuel + 1) listed E ds h := Any.take hi hsi fuel listed E ds h hok (PopW.ofG (g.out _ _ _ _ _) p.out) x
theorem A.takeN {hd : List Nat} {fuel j : Nat} {want : Bool} {listed : Array Bool} (i : Nat) (hi : l.toArray[i]? = some ⟨dst, op, ty, pos, after, some (j, want)⟩) [g : GrdC l b.n E j want false] (hok : takeOk l.toArray hd listed i = true) (hsi : ∀ cs b, op ≠ .select cs b)
    (x : Any P S b cs l.toArray hd Fin fuel (listed.setIfInBounds i true) (putE E dst undef) ds h) : Any P S b cs l.toArray hd Fin (fuel + 1) listed E ds h := Any.take hi hsi fuel listed E ds h hok (PopW.no (g.out _ _ _ _ _)) x
theorem A.takeM {hd : List Nat} {fuel : Nat} {listed : Array Bool} {v : Value} (i : Nat) (hi : l.toArray[i]? = some ⟨dst, op, ty, pos, after, none⟩) [p : ∀ h, PopC P b.n E h op ty v] (hok : takeOk l.toArray [] listed i = true) (hsi : ∀ cs b, op ≠ .select cs b)
    (x : Any P S b cs l.toArray hd Fin fuel (listed.setIfInBounds i true) (putE E dst v) ds h) : Any P S b cs l.toArray hd Fin (fuel + 1) listed E ds h := Any.takeM hi hsi fuel listed E ds h hok (fun h => PopW.of (p h).out) x
theorem A.split {hd : List Nat} {fuel : Nat} {t : Bool} {listed : Array Bool} (d : Nat) [_he : LookC E d (.bool t)] (hT : IsC t true → Any P S b cs l.toArray hd Fin fuel listed E ds h) (hF : IsC t false → Any P S b cs l.toArray hd Fin fuel listed E ds h) : Any P S b cs l.toArray hd Fin fuel listed E ds h := by
  cases ht : t
  · exact hF ⟨ht⟩
  · exact hT ⟨ht⟩
/-- One operation, by the rules of the text's order. -/
theorem A.one {hd : List Nat} {fuel : Nat} {o : Oper} {listed : Array Bool} (i : Nat) (hi : l.toArray[i]? = some o) (hr : Region.ready .any l.toArray listed = [i])
    (x : WL P S b cs l.toArray (fun E' ds' h' => (i ∉ hd → Ext h h' ∧ ds' = ds) ∧ Any P S b cs l.toArray hd Fin fuel (listed.setIfInBounds i true) E' ds' h') [o] E ds h) : Any P S b cs l.toArray hd Fin (fuel + 1) listed E ds h := Any.one hr hi x
theorem A.soft {hd : List Nat} {fuel i : Nat} {h₀ : LH} {listed : Array Bool} [e : Ext0 h₀ h] (x : Any P S b cs l.toArray hd Fin fuel listed E ds h) :
    WL P S b cs l.toArray (fun E' ds' h' => (i ∉ hd → Ext h₀ h' ∧ ds' = ds) ∧ Any P S b cs l.toArray hd Fin fuel listed E' ds' h') [] E ds h := ⟨fun _ => ⟨e.out, rfl⟩, x⟩
theorem A.hard {hd : List Nat} {fuel i : Nat} {h₀ : LH} {listed : Array Bool} {ds₀ : List Deferred} (hi : hd.contains i = true) (x : Any P S b cs l.toArray hd Fin fuel listed E ds h) :
    WL P S b cs l.toArray (fun E' ds' h' => (i ∉ hd → Ext h₀ h' ∧ ds' = ds₀) ∧ Any P S b cs l.toArray hd Fin fuel listed E' ds' h') [] E ds h := ⟨fun hn => absurd (by simpa using hi) hn, x⟩
end
end Go.SL
