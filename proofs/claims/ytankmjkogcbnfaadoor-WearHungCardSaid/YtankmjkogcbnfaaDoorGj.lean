/-
  The program's two variables, as laid.
-/
import Derived.Test.YtankmjkogcbnfaaDoorGc
import Derived.Test.YtankmjkogcbnfaaDoorRows
import Derived.ProofKit
import Derived.LaidMore
import Derived.ChangeArms
import Derived.Carry
import Derived.SevenTiedAt
import Derived.Conc.LeavingOf
import Derived.Test.YtankmjkogcbnfaaDoorGg
import Derived.OpenShut
namespace Go.SL
open Go Go.Conc Go.RowKit Go.ChangeShapes
section
variable {H : Type} {enc : TypeId × Value → H}

/-! ### the run -/
theorem runs_of {P : Program} {Post : Value → World → Prop} {W : World} {f : FuncId} {args : List Value} {R : Value → LH → Prop} (hi : P.inits.idxOf? f = none) (x : ConB P f args (LH.all W) R) (hp : ∀ v h' w, R v h' → Fits h' w → Same W w → Post v w) :
    ∃ M last o w' t', runNT P (M + 1) (solo (G (Frame.enter P f args.toArray .normal) []) W) #[] = (.ended o w', t') ∧ runN P M (solo (G (Frame.enter P f args.toArray .normal) []) W) = .next last ∧ step P last = .ended o w' ∧ Go.Conc.Good P Post last o w' t' :=
  msafe_ends (msafe_conB hi x hp) calm_nil
theorem below_of {W w : World} {h' : LH} (x : Ext (LH.all W) h') (hf : Fits h' w) (hs : Same W w) : Below W.heap.size W w := by
  refine ⟨hs.os, hs.tape, hs.output, hs.size, fun k hk => ?_⟩
  have h1 : W.heap[k]? = some W.heap[k] := by simp [hk]
  rw [h1]
  exact hf.get _ _ (x.get _ _ h1)

/-- Derived/Conc/LeavingOf's opening, for a row that lists variables; the world's shape handed on. -/
theorem lifted_of {a : Assume} {C : Checked} {os : Os} {f : FuncId} {fn : Func} {s : ChangeSpec} {conds : List PathCond} {apart fresh handsOn again : Bool} {X : World → Array Value → Prop}
    (hX : ∀ (w w' : World) (args : Array Value), w.heap = w'.heap → X w args → X w' args)
    (own : ownKnob C.prog.godebug = none) (started : os.Started) (hfn : C.prog.funcs[f]? = some fn)
    (witness : ∃ (w : World) (tape : Tape) (i : Input), w.os = os ∧ (w.forCall tape i).Shaped C.prog ∧ i.vars = [] ∧ Input.okWide C.prog (w.forCall tape i) .any w.heap.size f i ∧
      ((s.pre enc C.prog fn conds apart (w.forCall tape i).memory i.args ∧ X (w.forCall tape i).memory i.args) ∧ sizedMet enc C.prog fn (OpenSpec.ofChange s) apart (w.forCall tape i).memory i.args) ∧ a.holds C.prog (lone (Frame.enter C.prog f i.args .normal) [] (w.forCall tape i)))
    (runs : ∀ (W : World) (base : Nat) (args : Array Value) (ds gs : List (DataW H)) (before : List MemPlace), W.ShapedOpen C.prog →
      (∀ (j : Nat) t v, fn.params[j]? = some t → args[j]? = some v → Value.okWide C.prog W .any base t v) →
      DataW.Whole enc C.prog fn.params.toList s.vars apart W args.toList ds gs before → X W args →
      ∃ M last o w' t', runNT C.prog (M + 1) (solo (G (Frame.enter C.prog f args .normal) []) W) #[] = (.ended o w', t') ∧ runN C.prog M (solo (G (Frame.enter C.prog f args .normal) []) W) = .next last ∧
        step C.prog last = .ended o w' ∧ Go.Conc.Good C.prog (fun v W' => s.post enc C.prog fn apart fresh handsOn again W args v W') last o w' t') :
    ReturnsInLeavingWide a C os f .any (fun w args => (s.pre enc C.prog fn conds apart w args ∧ X w args) ∧ sizedMet enc C.prog fn (OpenSpec.ofChange s) apart w args) (s.post enc C.prog fn apart fresh handsOn again) := by
  refine returnsInLeavingWide_of_good own started witness ?_
  intro w tape i _ hsh _ hok hpre hholds
  obtain ⟨_, _, _, fn', hfn', _, _, _, _, hval⟩ := hok
  have e : fn' = fn := Option.some.inj (hfn'.symm.trans hfn)
  subst e
  obtain ⟨⟨⟨ds, gs, before, hw, hc⟩, hx⟩, hz⟩ := hpre
  have hw' := DataW.Whole.of_heap (w' := w.forCall tape i) (by rfl) hw
  obtain ⟨M, last, o, w', t', h1, h2, h3, h4⟩ := runs (w.forCall tape i) w.heap.size i.args ds gs before hsh hval hw' (hX _ _ _ (by rfl) hx)
  exact ⟨M, last, o, w', t', h1, h2, h3, h4.mono fun v hp => ChangeSpec.post_blind hp⟩

/-! ### what is read behind the call -/
theorem below_trodAll {P : Program} (hl : laidOutB P = true) {W W' : World} (hb : Below W.heap.size W W') : ∀ (ts : List TypeId) (vs : List Value) (ds : List (DataW H)) (ps : List MemPlace), (∀ t ∈ ts, P.readableRec t = true ∧ t < P.types.size) →
    DataW.TrodAll enc P W 0 (fun _ => true) true ts vs ds ps → (∀ x ∈ ps, x.block < W.heap.size) → DataW.TrodAll enc P W' 0 (fun b => decide (b < W.heap.size)) true ts vs ds ps
  | [], [], [], _, _, h, _ => h
  | t :: ts, v :: vs, d :: ds, ps, ht, ⟨p, q, h1, h2, e⟩, hlt => by
    subst e
    exact ⟨p, q, Below.trod hl (ht t List.mem_cons_self).1 (ht t List.mem_cons_self).2 h1 hb (fun x hx => hlt x (List.mem_append.2 (.inl hx))), below_trodAll hl hb ts vs ds q (fun x hx => ht x (List.mem_cons_of_mem _ hx)) h2 (fun x hx => hlt x (List.mem_append.2 (.inr hx))), rfl⟩
  | [], _ :: _, _, _, _, h, _ => h.elim
  | [], [], _ :: _, _, _, h, _ => h.elim
  | _ :: _, [], _, _, _, h, _ => h.elim
  | _ :: _, _ :: _, [], _, _, h, _ => h.elim
theorem post_true {P : Program} {fn : Func} {s : ChangeSpec} (hl : laidOutB P = true) (hv : s.vars = []) (hr : fn.resultTypes = #[4]) (ub : P.underlying 4 = some .bool) (hs : fn.params.toList.all (fun t => P.readableRec t && decide (t < P.types.size)) = true)
    {W W' : World} {args : Array Value} {ds gs : List (DataW H)} {before : List MemPlace} (hW : DataW.Whole enc P fn.params.toList s.vars false W args.toList ds gs before)
    (e1 : (s.fn H ds).results = [.lit (.bool true)]) (e2 : (s.fn H ds).args = ds) (e3 : (s.fn H ds).vars = []) (hb : Below W.heap.size W W') : s.post enc P fn false true false false W args (.bool true) W' := by
  have hlt := hW.lt
  have hW0 := hW
  obtain ⟨p, q, hA, hV, rfl, _, _⟩ := hW
  rw [hv] at hV
  obtain ⟨rfl, rfl⟩ := trodVars_none hV
  simp only [List.append_nil] at hlt hW0
  refine ⟨ds, [], p, [], p, [], hW0, ?_, ?_, ?_, hb.frame _, fun h => by cases h⟩
  · have hrl : Value.resultList fn.resultTypes.size (.bool true) = [.bool true] := by rw [hr]; rfl
    rw [List.append_nil, e1, hrl, hr]
    exact trodAll_mk1 (shut_bool ub _)
  · rw [List.append_nil, e2]
    refine below_trodAll hl hb _ _ _ _ (fun t ht => ?_) hA hlt
    have := List.all_eq_true.1 hs t ht
    simpa using this
  · rw [List.append_nil, e3, hv]
    rfl

/-! ### arguments that come in -/
variable {P : Program} {W : World} {sp : Nat → Bool} {held : Bool}
variable (P enc W sp held) in
/-- Values of type t are n ints. -/
def IntT (t : TypeId) (n : Nat) : Prop := ∀ (fuel : Nat) (cs : List Value) (x : DataW H × List MemPlace), DataW.trod enc P W 0 sp held fuel t cs = some x → ∃ zs : List Int, zs.length = n ∧ cs = zs.map fun z => .int .i64 z
theorem intT_int {t : TypeId} (hu : P.underlying t = some (.int .i64)) : IntT enc P W sp held t 1 := fun fuel cs x h => by
  obtain ⟨n, rfl, _⟩ := DataW.trod_int hu h
  exact ⟨[n], rfl, rfl⟩
variable (P enc W sp held) in
def IntTs : Nat → List (TypeId × Nat) → Nat → Prop
  | o, [], n => o = n
  | o, f :: fs, n => f.2 = o ∧ ∃ m, P.cellsOf f.1 = m ∧ IntT enc P W sp held f.1 m ∧ IntTs (o + m) fs n
theorem intT_struct {t : TypeId} {n : Nat} {fl : List (TypeId × Nat)} (hfl : flB P t = some fl) (hn : P.cellsOf t = n) (hall : IntTs enc P W sp held 0 fl n) : IntT enc P W sp held t n := fun fuel cs x h => by
  unfold flB at hfl
  cases hu : P.underlying t with
  | none => rw [hu] at hfl; cases hfl
  | some d =>
    rw [hu] at hfl
    cases d <;> try cases hfl
    rename_i fs
    dsimp only at hfl
    split at hfl
    · rename_i hq
      simp only [Option.some.injEq] at hfl
      obtain ⟨xs, m, rfl, rfl, hl, hxl, hel⟩ := DataW.trod_struct hu h
      rw [hn] at hl
      have key : ∀ (gs : List (TypeId × Nat)) (o : Nat), (∃ pre, fl = pre ++ gs) → IntTs enc P W sp held o gs n → ∃ zs : List Int, zs.length = n - o ∧ cs.drop o = zs.map fun z => .int .i64 z := by
        intro gs
        induction gs with
        | nil =>
          intro o _ ho
          have : o = n := ho
          subst this
          exact ⟨[], by simp, by simp [List.drop_eq_nil_of_le, hl]⟩
        | cons g gs ih =>
          rintro o ⟨pre, hpre⟩ ⟨h1, m', h2, h3, h4⟩
          obtain ⟨zs, hz1, hz2⟩ := ih (o + m') ⟨pre ++ [g], by rw [hpre]; simp⟩ h4
          have hi : fs[pre.length]? = some (fs.toList[pre.length]'(by
              have : fl.length = fs.toList.length := by rw [← hfl]; simp
              rw [hpre] at this; simp at this ⊢; omega)) := by simp
          have hlt : pre.length < fs.toList.length := by
            have : fl.length = fs.toList.length := by rw [← hfl]; simp
            rw [hpre] at this; simp at this ⊢; omega
          have hg : (fs.toList[pre.length]'hlt).type = g.1 ∧ (fs.toList[pre.length]'hlt).offset = g.2 := by
            have e : (fl)[pre.length]? = some g := by rw [hpre]; simp
            rw [← hfl, List.getElem?_map, List.getElem?_eq_getElem hlt] at e
            simp only [Option.map_some, Option.some.injEq] at e
            rw [← e]; exact ⟨rfl, rfl⟩
          have he := hel pre.length _ hi
          rw [hg.1, hg.2, h1, h2] at he
          have hxlt : pre.length < xs.length := by rw [hxl]; simpa using hlt
          rw [List.getElem?_eq_getElem hxlt] at he
          obtain ⟨ys, hy1, hy2⟩ := h3 _ _ _ he
          refine ⟨ys ++ zs, ?_, ?_⟩
          · have hlen : ((cs.drop o).take m').length = m' := by rw [hy2]; simpa using hy1
            simp only [List.length_take, List.length_drop, hl] at hlen
            simp only [List.length_append, hy1, hz1]; omega
          · rw [← List.take_append_drop m' (cs.drop o), hy2, List.drop_drop, hz2, List.map_append]
      obtain ⟨zs, h1, h2⟩ := key fl 0 ⟨[], rfl⟩ hall
      exact ⟨zs, by simpa using h1, by simpa using h2⟩
    · cases hfl
theorem cells_of {a : Addr} {n : Nat} {l : List Value} (hn : 0 < n) (h : W.cells? 0 a n = some l) : l.length = n ∧ ∃ c e f, a.spot = none ∧ W.heap[a.block]? = some (.cells c e f) ∧ a.off + n ≤ c.size ∧ l = (c.toList.drop a.off).take n := by
  unfold World.cells? at h
  rw [if_pos (Nat.zero_le _)] at h
  have hlen : l.length = n := by have := mapM_some_length h; simpa using this
  have hget : ∀ i, i < n → W.cell? (a.add i) = l[i]? := fun i hi => mapM_some_get h i i (by simp [hi])
  refine ⟨hlen, ?_⟩
  have h0 := hget 0 hn
  rw [List.getElem?_eq_getElem (by omega : 0 < l.length)] at h0
  unfold World.cell? at h0
  have ha0 : a.add 0 = a := by simp [Addr.add]
  rw [ha0] at h0
  cases hc : W.heap[a.block]? with
  | none => rw [hc] at h0; cases h0
  | some o =>
    rw [hc] at h0
    cases o with
    | cells c e f =>
      dsimp only at h0
      split at h0
      · cases h0
      · rename_i hs
        have hs' : a.spot = none := by simpa using hs
        have hcell : ∀ i, i < n → c[a.off + i]? = l[i]? := fun i hi => by
          have := hget i hi
          rw [add_eq hs' i] at this
          unfold World.cell? at this
          dsimp only at this
          rw [hc] at this
          simpa using this
        have hsz : a.off + n ≤ c.size := by
          have := hcell (n - 1) (by omega)
          rw [List.getElem?_eq_getElem (by omega : n - 1 < l.length)] at this
          have := (Array.getElem?_eq_some_iff.1 this).1
          omega
        refine ⟨c, e, f, hs', rfl, hsz, ?_⟩
        apply List.ext_getElem?
        intro i
        by_cases hi : i < n
        · rw [← hcell i hi]
          simp [List.getElem?_take, hi]
        · rw [List.getElem?_eq_none (by omega), List.getElem?_eq_none (by simp; omega)]
    | _ => cases h0
/-- A slice of parts of ints. -/
theorem sl_of {α : Type} (toC : α → List Value) {t e : TypeId} {n fuel : Nat} {cs : List Value} {x : DataW H × List MemPlace} (ht : P.underlying t = some (.slice e)) (hc : P.cellsOf e = n) (hn : 0 < n) (hI : IntT enc P W sp held e n) (ofZ : ∀ zs : List Int, zs.length = n → ∃ a : α, toC a = zs.map fun z => .int .i64 z)
    (h : DataW.trod enc P W 0 sp held fuel t cs = some x) : ∃ v l, cs = [v] ∧ SingleC v ∧ SlE (LH.all W) n v ((l : List α).map toC) := by
  rcases DataW.trod_slice ht h with ⟨rfl, _⟩ | ⟨a, len, cap, elems, rest, m, rfl, rfl, rfl, _, hlc, _, hel, he, _⟩
  · exact ⟨_, [], rfl, ⟨rfl⟩, none, 0, rfl, by simp, fun i cs hi => by simp at hi⟩
  · have hex : ∀ i, i < len → ∃ y : α, W.cells? 0 (a.add (i * n)) n = some (toC y) := fun i hi => by
      have := he i hi
      rw [hc, List.getElem?_eq_getElem (by omega : i < elems.length), Option.bind_eq_some_iff] at this
      obtain ⟨l, h1, h2⟩ := this
      obtain ⟨zs, hz1, hz2⟩ := hI _ _ _ h2
      obtain ⟨y, hy⟩ := ofZ zs hz1
      exact ⟨y, by rw [h1, hz2, hy]⟩
    have hl : ∃ l : List α, l.length = len ∧ ∀ i y, l[i]? = some y → W.cells? 0 (a.add (i * n)) n = some (toC y) := by
      have : ∀ k, k ≤ len → ∃ l : List α, l.length = k ∧ ∀ i y, l[i]? = some y → W.cells? 0 (a.add (i * n)) n = some (toC y) := by
        intro k
        induction k with
        | zero => exact fun _ => ⟨[], rfl, fun i y h => by simp at h⟩
        | succ k ih =>
          intro hk
          obtain ⟨l, h1, h2⟩ := ih (by omega)
          obtain ⟨y, hy⟩ := hex k (by omega)
          refine ⟨l ++ [y], by simp [h1], fun i z hz => ?_⟩
          by_cases hi : i < l.length
          · rw [List.getElem?_append_left hi] at hz
            exact h2 i z hz
          · rw [List.getElem?_append_right (by omega)] at hz
            have : i - l.length = 0 := by
              have := (List.getElem?_eq_some_iff.1 hz).1
              simp at this; omega
            rw [this] at hz
            simp at hz
            subst hz
            have : i = k := by omega
            subst this
            exact hy
      exact this len (Nat.le_refl _)
    obtain ⟨l, h1, h2⟩ := hl
    refine ⟨_, l, rfl, ⟨rfl⟩, some a, cap, by simp [h1], by simpa [h1] using hlc, fun i cs hi => ?_⟩
    rw [List.getElem?_map, Option.map_eq_some_iff] at hi
    obtain ⟨y, hy, rfl⟩ := hi
    have hsp : a.spot = none := by
      have h0 : 0 < l.length := by have := (List.getElem?_eq_some_iff.1 hy).1; omega
      have := cells_of hn (h2 0 l[0] (by simp [h0]))
      obtain ⟨_, _, _, _, k, _⟩ := this
      rw [Nat.zero_mul, show a.add 0 = a by simp [Addr.add]] at k
      exact k
    have hq := h2 i y hy
    rw [add_eq hsp] at hq
    obtain ⟨k1, c, e', f, _, k3, k4, k5⟩ := cells_of hn hq
    obtain ⟨b, off, spot⟩ := a
    have hsp : spot = none := hsp
    subst hsp
    exact ⟨b, off, c, e', f, rfl, k3, k1, k4, k5⟩
end
/-- The tied card of a row whose call starts goroutines. -/
theorem tied_goes (Lk : Looks) {p : Pinned} {s : OpenSpec} {c : OpenClaim} (kinds : List LaidKind) (tests : Bool) (har : Bool × String) (lk : Bool)
    (hc : c.holds p s) (hw : c.wfByText s = true) (htie : c.laidByTextAt Lk p kinds tests)
    (hst : c.start = .entering) (hnb : c.noBlocks = false ∧ c.again = false) (hm : p.checked.prog.mainIs = some (har.1, har.2.toList)) (hn : (!har.1 && har.2.isEmpty && !lk) = false)
    (hl : ∀ f fn, p.checked.prog.funcNamed c.func = some f → p.checked.prog.funcs[f]? = some fn → lk = p.checked.prog.looks [] ∧ ∀ (j : Nat) t, fn.params[j]? = some t → p.checked.prog.wantsStandIn t = false)
    (hg : true = c.goesBy p.checked.prog) :
    Claim7.holds p (.plain s) { stood := { row := c, standIns := [], harness := har, looks := lk }, kinds := [], alts := [], goes := true, laidByText := true, laidKinds := kinds, laidTests := tests, laidLooks := Lk } := by
  have h6 : Claim7.isSixth { stood := { row := c, standIns := [], harness := har, looks := lk }, kinds := [] } = false := by simpa [Claim7.isSixth] using hn
  refine ⟨?_, (fun D hD => by cases hD), htie, (fun h => by cases h), hg⟩
  exact (Claim7.holdsOne_goes p (.plain s) { stood := { row := c, standIns := [], harness := har, looks := lk }, kinds := [], alts := [], laidByText := true, laidKinds := kinds, laidTests := tests, laidLooks := Lk } true).2 (Claim7.tied_new_at Lk kinds tests (Claim7.new_of_sixth hc har lk hst hnb hm h6 hl) hw)
end Go.SL
namespace Go.Proofs.YtankmjkogcbnfaaDoor
open Go Go.SL Go.Conc Go.RowKit Go.ChangeShapes
theorem struct_of {H : Type} {enc : TypeId × Value → H} {P : Program} {w : World} {base : Nat} {sp : Nat → Bool} {held : Bool} {fuel : Nat} {t : TypeId} {cs : List Value} {x : DataW H × List MemPlace} {fl : List (TypeId × Nat)} (hfl : flB P t = some fl) (h : DataW.trod enc P w base sp held fuel t cs = some x) :
    ∃ (xs : List (DataW H × List MemPlace)) (m : Nat), x.1 = .agg (xs.map (·.1)) ∧ cs.length = P.cellsOf t ∧ xs.length = fl.length ∧ ∀ (i : Nat) (f : TypeId × Nat), fl[i]? = some f → DataW.trod enc P w base sp held m f.1 ((cs.drop f.2).take (P.cellsOf f.1)) = xs[i]? := by
  unfold flB at hfl
  cases hu : P.underlying t with
  | none => rw [hu] at hfl; cases hfl
  | some d =>
    rw [hu] at hfl
    cases d <;> try cases hfl
    rename_i fs
    dsimp only at hfl
    split at hfl
    · simp only [Option.some.injEq] at hfl
      obtain ⟨xs, m, rfl, rfl, hl, hxl, hel⟩ := DataW.trod_struct hu h
      refine ⟨xs, m, rfl, hl, by rw [hxl, ← hfl]; simp, fun i f hf => ?_⟩
      rw [← hfl, List.getElem?_map, Option.map_eq_some_iff] at hf
      obtain ⟨g, hg, rfl⟩ := hf
      exact hel i g (by simpa using hg)
    · cases hfl
theorem len2 {α : Type} {l : List α} (h : l.length = 2) : ∃ a b, l = [a, b] := by
  match l, h with
  | [a, b], _ => exact ⟨a, b, rfl⟩
theorem len3 {α : Type} {l : List α} (h : l.length = 3) : ∃ a b c, l = [a, b, c] := by
  match l, h with
  | [a, b, c], _ => exact ⟨a, b, c, rfl⟩
theorem own : ownKnob Tryd.prog.godebug = none := by kernel_rfl
theorem laidOut : laidOutB Tryd.prog = true := by kernel_rfl
theorem gSrc : Tryd.prog.globalNamed "thatch/fix.source" = some 0 := by kernel_rfl
theorem gEnd : Tryd.prog.globalNamed "thatch/fix.end" = some 1 := by kernel_rfl
theorem tSrc : (Tryd.prog.globals[0]?).map (·.type) = some 206 := by kernel_rfl
theorem tEnd : (Tryd.prog.globals[1]?).map (·.type) = some 206 := by kernel_rfl
theorem cz206 : Tryd.prog.cellsOf 206 = 3 := by kernel_rfl
theorem cz204 : Tryd.prog.cellsOf 204 = 2 := by kernel_rfl
theorem cz3 : Tryd.prog.cellsOf 3 = 1 := by kernel_rfl
theorem cz4 : Tryd.prog.cellsOf 4 = 1 := by kernel_rfl
theorem f206 : flB Tryd.prog 206 = some [(3, 0), (204, 1)] := by kernel_rfl
theorem u204 : Tryd.prog.underlying 204 = some (.array 2 4) := by kernel_rfl
theorem u3 : Tryd.prog.underlying 3 = some (.int .i64) := by kernel_rfl
theorem u4 : Tryd.prog.underlying 4 = some .bool := by kernel_rfl
theorem rowSrc : ((begin Tryd.prog (fun _ _ => 0) default).world.heap[0]?).bind Obj.row? = some (#[.int .i64 0, .bool false, .bool false], 206) := by kernel_rfl
theorem rowEnd : ((begin Tryd.prog (fun _ _ => 0) default).world.heap[1]?).bind Obj.row? = some (#[.int .i64 0, .bool false, .bool false], 206) := by kernel_rfl
theorem gsz : 2 ≤ Tryd.prog.globals.size := by
  have h : decide (2 ≤ Tryd.prog.globals.size) = true := by kernel_rfl
  exact of_decide_eq_true h
/-- The laid data of a spot. -/
theorem spot_cells {enc : TypeId × Value → Unit} {W : World} {sp : Nat → Bool} {held : Bool} {fuel : Nat} {cs : List Value} {z : Int} {p : List MemPlace}
    (h : DataW.trod enc Tryd.prog W 0 sp held fuel 206 cs = some (.agg [.lit (.int .i64 z), .agg [.lit (.bool false), .lit (.bool false)]], p)) : cs = [.int .i64 z, .bool false, .bool false] := by
  obtain ⟨xs, m, hx, hl, hxl, hel⟩ := struct_of f206 h
  rw [cz206] at hl
  have h0 := hel 0 (3, 0) rfl
  have h1 := hel 1 (204, 1) rfl
  obtain ⟨x0, x1, rfl⟩ := len2 hxl
  obtain ⟨a, b, c, rfl⟩ := len3 hl
  simp only [List.map_cons, List.map_nil, DataW.agg.injEq, List.cons.injEq, and_true] at hx
  obtain ⟨hx0, hx1⟩ := hx
  rw [cz3] at h0
  rw [cz204] at h1
  simp only [List.drop_zero, List.take_succ_cons, List.take_zero, List.getElem?_cons_zero] at h0
  simp only [List.drop_succ_cons, List.drop_zero, List.take_succ_cons, List.take_zero, List.getElem?_cons_succ, List.getElem?_cons_zero] at h1
  obtain ⟨n, e1, e2, _⟩ := DataW.trod_int u3 h0
  obtain ⟨ys, m', _, hy, _, hyl, hely⟩ := DataW.trod_array u204 h1
  replace hy := congrArg Prod.fst hy
  obtain ⟨y0, y1, rfl⟩ := len2 hyl
  have g0 := hely 0 (by decide)
  have g1 := hely 1 (by decide)
  rw [cz4] at g0 g1
  simp only [Nat.zero_mul, Nat.one_mul, List.drop_zero, List.take_succ_cons, List.take_zero, List.getElem?_cons_zero] at g0
  simp only [Nat.zero_mul, Nat.one_mul, List.drop_succ_cons, List.drop_zero, List.take_succ_cons, List.take_zero, List.getElem?_cons_succ, List.getElem?_cons_zero] at g1
  obtain ⟨b0, k1, k2⟩ := DataW.trod_bool u4 g0
  obtain ⟨b1, k3, k4⟩ := DataW.trod_bool u4 g1
  rw [← hx1] at hy
  simp only [List.map_cons, List.map_nil, DataW.agg.injEq, List.cons.injEq, and_true] at hy
  rw [e2] at hx0
  rw [k2, k4] at hy
  simp only [DataW.lit.injEq, Lit.int.injEq, true_and, Lit.bool.injEq] at hx0 hy
  simp only [List.cons.injEq, and_true] at e1 k1 k3
  rw [e1, k1, k3, ← hx0, ← hy.1, ← hy.2]
theorem globals_of {W : World} (hsh : W.ShapedOpen Tryd.prog) (hL : laidMetH Tryd.prog [("thatch/fix.source", Rows.laid_thatch_fix_source), ("thatch/fix.end", Rows.laid_thatch_fix_end)] W) :
    HG (LH.all W) 0 (.cells (List.toArray [.int .i64 (-1), .bool false, .bool false]) 206 (0, 0)) ∧ HG (LH.all W) 1 (.cells (List.toArray [.int .i64 (-2), .bool false, .bool false]) 206 (0, 0)) := by
  rw [MakeChecks.laidMetH_plain _ _ _ (by kernel_rfl)] at hL
  obtain ⟨ps, ⟨g0, t0, cs0, f0, p0, q0, hg0, ht0, hv0, hd0, ⟨g1, t1, cs1, f1, p1, q1, hg1, ht1, hv1, hd1, _, _⟩, _⟩, _, _⟩ := hL
  obtain rfl := Option.some.inj (gSrc.symm.trans hg0)
  obtain rfl := Option.some.inj (gEnd.symm.trans hg1)
  obtain rfl := Option.some.inj (tSrc.symm.trans ht0)
  obtain rfl := Option.some.inj (tEnd.symm.trans ht1)
  have e0 := spot_cells hd0
  have e1 := spot_cells hd1
  have hsz := gsz
  obtain ⟨c0, k0, _⟩ := hsh.1 0 _ _ (by omega) rowSrc
  obtain ⟨c1, k1, _⟩ := hsh.1 1 _ _ (by omega) rowEnd
  have v0 : c0 = cs0 := by
    simp only [World.var?, gSrc, Option.bind_some] at hv0
    rw [k0] at hv0
    exact Option.some.inj hv0
  have v1 : c1 = cs1 := by
    simp only [World.var?, gEnd, Option.bind_some] at hv1
    rw [k1] at hv1
    exact Option.some.inj hv1
  subst v0 v1
  have a0 : c0 = List.toArray [.int .i64 (-1), .bool false, .bool false] := by apply Array.ext'; simpa using e0
  have a1 : c1 = List.toArray [.int .i64 (-2), .bool false, .bool false] := by apply Array.ext'; simpa using e1
  rw [a0] at k0
  rw [a1] at k1
  exact ⟨k0, k1⟩
end Go.Proofs.YtankmjkogcbnfaaDoor
