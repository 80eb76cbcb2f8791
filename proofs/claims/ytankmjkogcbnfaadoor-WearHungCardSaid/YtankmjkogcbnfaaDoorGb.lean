/-
  The calculus of local heaps, part sixteen: a set of blocks and of slices that one owns, apart from each other.
-/
import Derived.Test.YtankmjkogcbnfaaDoorGa
import Derived.Laws.Strings
namespace Go.SL
open Go.Conc (G)

def blkOf : Value → Option Nat
  | .slice (some a) _ _ => some a.block
  | _ => none

/-- v is a slice that one may write, as far as it has room; its elements, of sz cells each, are xs. -/
def SlW (h : LH) (sz : Nat) (v : Value) (xs : List (List Value)) : Prop :=
  (∀ x ∈ xs, x.length = sz) ∧ ((v = .slice none 0 0 ∧ xs = []) ∨
    ∃ b off cap c e, v = .slice (some ⟨b, off, none⟩) xs.length cap ∧ xs.length ≤ cap ∧ Own h b ∧ HG h b (.cells (List.toArray c) e (0, 0)) ∧ off + cap * sz ≤ c.length ∧ (c.drop off).take (xs.length * sz) = xs.flatten)

theorem flat_len {sz : Nat} : ∀ {xs : List (List Value)}, (∀ x ∈ xs, x.length = sz) → xs.flatten.length = xs.length * sz
  | [], _ => by simp
  | x :: xs, h => by
    rw [List.flatten_cons, List.length_append, flat_len (fun y hy => h y (List.mem_cons_of_mem _ hy)), h x List.mem_cons_self, List.length_cons, Nat.add_mul]
    omega

theorem flat_get {sz : Nat} : ∀ {xs : List (List Value)} {i : Nat} {cs : List Value}, (∀ x ∈ xs, x.length = sz) → xs[i]? = some cs → cs = (xs.flatten.drop (i * sz)).take sz
  | [], _, _, _, h => by simp at h
  | x :: xs, 0, cs, h, hi => by
    simp at hi; subst hi
    have := h x List.mem_cons_self
    simp [← this]
  | x :: xs, i + 1, cs, h, hi => by
    have hx := h x List.mem_cons_self
    have ih := flat_get (fun y hy => h y (List.mem_cons_of_mem _ hy)) (show xs[i]? = some cs by simpa using hi)
    rw [List.flatten_cons, show (i + 1) * sz = x.length + i * sz by rw [hx, Nat.add_mul]; omega, List.drop_append]
    have e0 : List.drop (x.length + i * sz) x = [] := List.drop_eq_nil_of_le (by omega)
    rw [e0]
    simpa using ih

theorem SlW.sle {h : LH} {sz : Nat} {v : Value} {xs : List (List Value)} (p : SlW h sz v xs) : SlE h sz v xs := by
  obtain ⟨hl, ⟨rfl, rfl⟩ | ⟨b, off, cap, c, e, rfl, h1, h2, h3, h4, h5⟩⟩ := p
  · exact ⟨none, 0, rfl, by simp, fun i cs hi => by simp at hi⟩
  · refine ⟨some ⟨b, off, none⟩, cap, rfl, h1, fun i cs hi => ?_⟩
    have hlt : i < xs.length := (List.getElem?_eq_some_iff.1 hi).1
    have hm : i * sz + sz ≤ xs.length * sz := by
      have := Nat.mul_le_mul_right sz (show i + 1 ≤ xs.length by omega)
      rw [Nat.add_mul] at this; omega
    have hm2 : xs.length * sz ≤ cap * sz := Nat.mul_le_mul_right sz h1
    refine ⟨b, off, c.toArray, e, (0, 0), rfl, h3, hl cs (List.mem_of_getElem? hi), by simp; omega, ?_⟩
    have := flat_get hl hi
    rw [this, ← h5, List.drop_take, List.take_take, List.drop_drop]
    congr 1
    omega

/-- What is read of a slice, in one piece. -/
theorem SlE.flat {h : LH} {sz : Nat} {v : Value} {xs : List (List Value)} (p : SlE h sz v xs) : (∀ x ∈ xs, x.length = sz) ∧ (xs = [] ∨ ∃ b off cap c e f, v = .slice (some ⟨b, off, none⟩) xs.length cap ∧ HG h b (.cells (List.toArray c) e f) ∧ off + xs.length * sz ≤ c.length ∧ (c.drop off).take (xs.length * sz) = xs.flatten) := by
  obtain ⟨a, cap, rfl, hc, he⟩ := p
  refine ⟨fun x hx => ?_, ?_⟩
  · obtain ⟨i, hi, e⟩ := List.mem_iff_getElem.1 hx
    obtain ⟨_, _, _, _, _, _, _, hl, _⟩ := he i x (by simp [hi, e])
    exact hl
  · cases xs with
    | nil => exact .inl rfl
    | cons x xs' =>
      right
      generalize hxs : x :: xs' = xs at *
      have h0 : 0 < xs.length := by rw [← hxs]; simp
      obtain ⟨b, off, c, e, f, rfl, hg, hl, hle, hcs⟩ := he 0 xs[0] (by simp [h0])
      have same : ∀ i (hi : i < xs.length), xs[i].length = sz ∧ off + i * sz + sz ≤ c.size ∧ xs[i] = (c.toList.drop (off + i * sz)).take sz := by
        intro i hi
        obtain ⟨b', off', c', e', f', ha, hg', hl', hle', hcs'⟩ := he i xs[i] (by simp [hi])
        cases ha
        have := hg.symm.trans hg'
        cases this
        exact ⟨hl', hle', hcs'⟩
      have key : ∀ k, k ≤ xs.length → off + k * sz ≤ c.toList.length ∧ (c.toList.drop off).take (k * sz) = (xs.take k).flatten := by
        intro k
        induction k with
        | zero => intro _; simp; omega
        | succ k ih =>
          intro hk
          obtain ⟨i1, i2⟩ := ih (by omega)
          obtain ⟨s1, s2, s3⟩ := same k (by omega)
          have hmul : (k + 1) * sz = k * sz + sz := by rw [Nat.add_mul]; omega
          refine ⟨by simp; omega, ?_⟩
          rw [hmul, List.take_add, i2, List.drop_drop, ← s3, List.take_succ_eq_append_getElem (by omega), List.flatten_append]
          simp
      refine ⟨b, off, cap, c.toList, e, f, rfl, by simpa using hg, (key _ (Nat.le_refl _)).1, ?_⟩
      rw [(key _ (Nat.le_refl _)).2, List.take_length]

theorem SlW.ext {h h' : LH} {sz : Nat} {v : Value} {xs : List (List Value)} (p : SlW h sz v xs) (x : Ext h h') : SlW h' sz v xs := by
  obtain ⟨hl, h | ⟨b, off, cap, c, e, h1, h2, h3, h4, h5, h6⟩⟩ := p
  · exact ⟨hl, .inl h⟩
  · exact ⟨hl, .inr ⟨b, off, cap, c, e, h1, h2, h3.ext x, h4.ext x, h5, h6⟩⟩

/-- Only the block of slice s may have turned. -/
structure FrW (h h' : LH) (s : Value) : Prop where
  get : ∀ b o, h.get b = some o → blkOf s ≠ some b → h'.get b = some o
  own : ∀ b, h.own b → h'.own b
  gh : h'.gh = h.gh

theorem FrW.refl {h : LH} {s : Value} : FrW h h s := ⟨fun _ _ x _ => x, fun _ x => x, rfl⟩

/-- The block of a slice, if it has one, was not there. -/
def NewB (h : LH) (s : Value) : Prop := ∀ b, blkOf s = some b → h.get b = none
theorem FrW.ext {h₀ h h' : LH} {s : Value} (p : FrW h h' s) (n : NewB h₀ s) (x : Ext h₀ h) : Ext h₀ h' :=
  ⟨fun b o hb => p.get b o (x.get b o hb) (fun e => by rw [n b e] at hb; cases hb), fun b hb => p.own b (x.own b hb), p.gh.trans x.gh⟩

theorem SlW.ne {h : LH} {sz p : Nat} {v : Value} {xs : List (List Value)} {o : Obj} (w : SlW h sz v xs) (hn : blkOf v ≠ some p) : SlW (h.upd p o) sz v xs := by
  obtain ⟨hl, h | ⟨b, off, cap, c, e, rfl, h2, h3, h4, h5, h6⟩⟩ := w
  · exact ⟨hl, .inl h⟩
  · exact ⟨hl, .inr ⟨b, off, cap, c, e, rfl, h2, h3.miss, h4.ne (fun e => hn (by simp [blkOf, e])), h5, h6⟩⟩
theorem NewB.old {h₀ h : LH} {v : Value} (n : NewB h v) (x : Ext h₀ h) : NewB h₀ v := fun b hb => by
  cases hg : h₀.get b with
  | none => rfl
  | some o => have := x.get _ _ hg; rw [n b hb] at this; cases this
theorem NewB.ne {h : LH} {v : Value} {p : Nat} {o : Obj} (n : NewB h v) [hg : HGC h p o] : blkOf v ≠ some p := fun e => by have := hg.out; simp only [HG] at this; rw [n p e] at this; cases this


section
variable {P : Program} {main : Bool} {S : LH → Goroutine → Prop} {b : Base} {E : Env} {ds : List Deferred} {cs : List Frame} {h : LH} {ops : Array Oper} {K : Env → List Deferred → LH → Prop} {n : Nat}
variable {dst : Option Tmp} {ty : TypeId} {pos : String} {after : Array Edge}

theorem growBy_le {m : Nat} : ∀ (r c : Nat), c ≤ 2 * m + 192 → Builtin.growBy m r c ≤ 2 * m + 192
  | 0, c, h => h
  | r + 1, c, h => by
    unfold Builtin.growBy
    split
    · exact h
    · exact growBy_le r _ (by omega)

theorem nextcap_le {m c : Nat} (h : c < m) : Builtin.nextslicecap m c ≤ 2 * m + 192 := by
  unfold Builtin.nextslicecap
  split
  · omega
  · split
    · omega
    · exact growBy_le _ _ (by omega)

theorem wps_firstCells {sz m : Nat} {v : Value} {xs : List (List Value)} {K : Out (Array Value) → LH → Prop} (hs : SlE h sz v xs) (hm : m = xs.length) (x : K (.ok xs.flatten.toArray) h) : wps P (Builtin.firstCells sz m v) h K := by
  subst hm
  obtain ⟨hl, rfl | ⟨b, off, cap, c, e, f, rfl, hg, hle, hf⟩⟩ := hs.flat
  · obtain ⟨a, cap, rfl, _, _⟩ := hs
    cases a with
    | none => exact wps_pure x
    | some a =>
      unfold Builtin.firstCells loadCells
      simp only [List.length_nil, Nat.zero_mul]
      exact wps_pure x
  · unfold Builtin.firstCells loadCells
    refine wps_loadCellsFrom (c := c.toArray) hg rfl _ 0 #[] _ (by simpa using hle) ?_
    have : (#[] : Array Value) ++ c.toArray.extract (off + 0) (off + 0 + xs.length * sz) = xs.flatten.toArray := by
      rw [← hf]; simp [List.extract_eq_take_drop]
    rw [this]; exact x

theorem wps_askRoom {m : Nat} {K : Out Unit → LH → Prop} (x : K (.ok ()) h) : wps P (askRoom m) h K := by
  unfold askRoom
  split
  · exact ⟨rfl, x⟩
  · exact wps_pure x

/-- append of a slice's elements. -/
theorem OpS.append {t1 t2 el : TypeId} {x y : Operand} {s v : Value} {sz by_ : Nat} {xs ys : List (List Value)} {z : List Value} {el2 : TypeId} (hx : Ev b.n E x s) (hy : Ev b.n E y v) (hu : P.underlying t1 = some (.slice el)) (hu2 : P.underlying t2 = some (.slice el2))
    (hz : szB P el = some sz) (hb : byB P el = some by_) (hzr : zrL P el = some z) (hzl : z.length = sz) (hs : SlW h sz s xs) (hv : SlE h sz v ys) (hsg : Sgl ys.flatten) (hlim : (2 * (xs.length + ys.length) + 192) * by_ ≤ 281474976710656) (hlen : xs.length + ys.length ≤ 9223372036854775807)
    (hk : ∀ s' h', SlW h' sz s' (xs ++ ys) → FrW h h' s → (blkOf s' = blkOf s ∨ ∃ p, blkOf s' = some p ∧ h.get p = none) → K (putE E dst s') ds h') :
    OpS P S b cs ops ⟨dst, .call { callee := .builtin .append, args := #[x, y], argTypes := #[t1, t2] }, ty, pos, after, none⟩ E ds h K := by
  refine OpS.of rfl ?_
  simp only [Ev] at hx hy
  simp only [execOp, resolve, List.map_toArray, List.map_cons, List.map_nil, hx, hy]
  refine wps_bind' (wps_pure ?_)
  dsimp only [invoke, builtin]
  refine wps_bind' ?_
  unfold Builtin.append_
  simp only [List.getElem?_toArray, List.getElem?_cons_zero, List.getElem?_cons_succ]
  refine wps_bind' (wps_underlying hu ?_)
  have hsv : ∃ base cap, s = .slice base xs.length cap := by
    obtain ⟨_, ⟨rfl, rfl⟩ | ⟨b, off, cap, c, e, rfl, _⟩⟩ := hs
    · exact ⟨none, 0, rfl⟩
    · exact ⟨_, cap, rfl⟩
  obtain ⟨base, cap, hsv⟩ := hsv
  subst hsv
  dsimp only
  refine wps_bind' (wps_sizeOf hz ?_)
  dsimp only
  refine wps_bind' (wps_underlying hu2 ?_)
  dsimp only
  refine wps_bind' (wps_pure ?_)
  dsimp only
  simp only [Bool.false_eq_true, if_false, Bool.not_false, if_true]
  have hvl : ∃ a c, v = .slice a ys.length c := by obtain ⟨a, c, rfl, _⟩ := hv; exact ⟨a, c, rfl⟩
  obtain ⟨va, vc, hvl⟩ := hvl
  have hlo : Builtin.lenOf v = pure ys.length := by rw [hvl]; rfl
  rw [hlo]
  refine wps_bind' (wps_pure ?_)
  dsimp only
  by_cases hneed : xs.length + ys.length ≤ cap
  · rw [if_pos hneed]
    refine wps_bind' (wps_firstCells hv rfl ?_)
    dsimp only
    obtain ⟨hl, ⟨he, rfl⟩ | ⟨p, off, cap', c, e, he, h1, h2, h3, h4, h5⟩⟩ := hs
    · cases he
      have hy0 : ys = [] := by simpa using hneed
      subst hy0
      dsimp only
      refine wps_pure ?_
      exact hk _ _ ⟨by simp, .inl ⟨rfl, rfl⟩⟩ .refl (.inl rfl)
    · cases he
      dsimp only
      have hyl := (hv.flat).1
      have hfl := flat_len hl
      have hfy := flat_len hyl
      have hcap : xs.length * sz + ys.length * sz ≤ cap * sz := by rw [← Nat.add_mul]; exact Nat.mul_le_mul_right sz hneed
      refine wps_bind' ?_
      refine wps_storeCells (p := p) (e := e) (add_spot rfl _) (by rw [add_block']) ys.flatten 0 c h _ h2 h3 (by rw [add_off]; simp only [hfy]; omega) hsg ?_
      refine wps_pure ?_
      rw [add_off]
      simp only [Nat.add_zero]
      refine hk _ _ ⟨fun x hx => (List.mem_append.1 hx).elim (hl x) (hyl x), .inr ⟨p, off, cap, _, e, by rw [List.length_append], by simpa using hneed, Own.hit, HG.hit, ?_, ?_⟩⟩ ⟨fun b' o hb hne => ?_, fun b' hb => .inl hb, rfl⟩ (.inl rfl)
      · simp only [List.length_append, List.length_take, List.length_drop, hfy]; omega
      · have e1 : (c.take (off + xs.length * sz)).drop off = (c.drop off).take (xs.length * sz) := by
          rw [List.drop_take]; congr 1; omega
        have hlen1 : (c.take (off + xs.length * sz)).length = off + xs.length * sz := by rw [List.length_take]; omega
        rw [List.append_assoc, List.drop_append_of_le_length (by omega), e1, h5, List.length_append, Nat.add_mul, ← hfl, ← hfy, List.flatten_append]
        rw [← List.append_assoc, ← List.length_append, List.take_left']
        simp
      · have : b' ≠ p := fun e => hne (by simp [blkOf, e])
        simp [LH.upd, this, hb]
  · rw [if_neg hneed]
    have hcl : cap < xs.length + ys.length := by omega
    unfold byB at hb
    cases hi : P.info? el with
    | none => simp [hi] at hb
    | some inf =>
    simp only [hi, Option.map_some, Option.some.injEq] at hb
    subst hb
    refine wps_bind' (wps_typeInfo hi ?_)
    have hno : ¬ (((xs.length + ys.length : Nat) : Int) > IntKind.i64.max ∧ (False ∨ inf.bytes = 0)) := by
      rintro ⟨h1, _⟩
      simp [IntKind.max, IntKind.signed, IntKind.bits] at h1
      omega
    dsimp only
    rw [if_neg hno]
    refine wps_bind' (wps_typeInfo hi ?_)
    have hno2 : ¬ Builtin.nextslicecap (xs.length + ys.length) cap * inf.bytes > 2 ^ 48 := by
      have := Nat.mul_le_mul_right inf.bytes (nextcap_le hcl)
      simp only [gt_iff_lt, Nat.not_lt]
      exact Nat.le_trans this hlim
    dsimp only
    rw [if_neg hno2]
    refine wps_bind' ?_
    unfold choose
    simp only [wps]
    have fin : ∀ newCap, xs.length + ys.length ≤ newCap → wps P (do
        let __do_lift ← typeInfo el
        askRoom (newCap * __do_lift.bytes)
        let old ← Builtin.firstCells sz xs.length (Value.slice base xs.length cap)
        let new ← Builtin.firstCells sz ys.length v
        let __do_lift ← zeroValue el
        let __do_lift ← newRow el (old ++ new ++ Builtin.zeroCells __do_lift.cells (newCap - (xs.length + ys.length)))
        pure (Value.slice (some __do_lift) (xs.length + ys.length) newCap)) h (fun o h' => match o with | .ok a => wps P (pure (Next.value a)) h' (NextO P S b cs E ds dst K) | .panic v => NextO P S b cs E ds dst K (.panic v) h') := by
      intro newCap hnc
      refine wps_bind' (wps_typeInfo hi ?_)
      refine wps_bind' (wps_askRoom ?_)
      refine wps_bind' (wps_firstCells hs.sle rfl ?_)
      refine wps_bind' (wps_firstCells hv rfl ?_)
      unfold zrL at hzr
      cases hzv : zrB P el with
      | none => simp [hzv] at hzr
      | some zv =>
      simp only [hzv, Option.map_some, Option.some.injEq] at hzr
      refine wps_bind' (wps_zeroValue hzv ?_)
      refine wps_bind' (s := newRow _ _) (wps_bind' (fun p hp => ?_))
      refine wps_pure (wps_pure (wps_pure ?_))
      have hyl := (hv.flat).1
      have hfl := flat_len hs.1
      have hfy := flat_len hyl
      have hzs : zv.cells.size = sz := by rw [← hzl, ← hzr]; simp
      refine hk _ _ ⟨fun x hx => (List.mem_append.1 hx).elim (hs.1 x) (hyl x), .inr ⟨p, 0, newCap, xs.flatten ++ ys.flatten ++ (Builtin.zeroCells zv.cells (newCap - (xs.length + ys.length))).toList, el, by rw [List.length_append], by rw [List.length_append]; exact hnc, Own.hit, ?_, ?_, ?_⟩⟩ ⟨fun b' o hb hne => ?_, fun b' hb => .inl hb, rfl⟩ (.inr ⟨p, rfl, hp⟩)
      · have : xs.flatten.toArray ++ ys.flatten.toArray ++ Builtin.zeroCells zv.cells (newCap - (xs.length + ys.length)) = (xs.flatten ++ ys.flatten ++ (Builtin.zeroCells zv.cells (newCap - (xs.length + ys.length))).toList).toArray := by
          apply Array.ext'; simp
        rw [this]; exact HG.hit
      · simp only [List.length_append, hfl, hfy, Array.length_toList, Builtin.zeroCells, Array.size_map, Array.size_range, hzs]
        rw [← Nat.add_mul, ← Nat.add_mul]
        rw [show xs.length + ys.length + (newCap - (xs.length + ys.length)) = newCap by omega]
        omega
      · rw [List.drop_zero, List.length_append, Nat.add_mul, ← hfl, ← hfy, ← List.length_append, List.take_left', List.flatten_append]
        simp
      · have : b' ≠ p := fun e => by subst e; rw [hp] at hb; cases hb
        simp [LH.upd, this, hb]
    split
    · rename_i hfc
      exact absurd hfc (by simp [Question.forced])
    · intro t
      refine wps_mono (fun o h' x => ?_) _ _ (fin ((Question.appendCap (xs.length + ys.length) cap el).cut t) (by simp only [Question.cut]; omega))
      cases o <;> exact x

/-! ### equality of structs -/
def flB (P : Program) (t : TypeId) : Option (List (TypeId × Nat)) :=
  match P.underlying t with
  | some (.struct fs) => if fs.toList.all (fun f => f.name != "_") && !P.stoodInHeld t then some (fs.toList.map fun f => (f.type, f.offset)) else none
  | _ => none
class FlsC (P : Program) (t : TypeId) (l : outParam (List (TypeId × Nat))) : Prop where out : flB P t = some l

class PartA (P : Program) (t : TypeId) (agg : Bool) (l : List Value) (off : Nat) (v : outParam Value) : Prop where out : ∀ (h : LH) (K : Out Value → LH → Prop), agB P t = some agg → K (.ok v) h → wps P (part t l.toArray off) h K
instance partS {t : TypeId} {l : List Value} {off : Nat} {v : Value} [p : NthC l off v] : PartA P t false l off v := ⟨fun h K ha hk => by
  unfold part
  refine wps_bind' (wps_isAgg ha ?_)
  have : l.toArray[off]? = some v := by simpa [Nth] using p.out
  simp only [Bool.false_eq_true, if_false, this]
  exact wps_pure hk⟩
instance partG {t : TypeId} {l l' : List Value} {off sz : Nat} [hz : SzC P t sz] [p : SubC l off sz l'] : PartA P t true l off (.agg l'.toArray) := ⟨fun h K ha hk => by
  unfold part
  refine wps_bind' (wps_isAgg ha ?_)
  simp only [if_true]
  refine wps_bind' (wps_sizeOf hz.out ?_)
  have : l.toArray.extract off (off + sz) = l'.toArray := by rw [p.out.1]; simp [List.extract_eq_take_drop]
  dsimp only
  rw [this]
  exact wps_pure hk⟩
class PartC (P : Program) (t : TypeId) (l : List Value) (off : Nat) (v : outParam Value) : Prop where out : ∀ (h : LH) (K : Out Value → LH → Prop), K (.ok v) h → wps P (part t l.toArray off) h K
instance partI {t : TypeId} {agg : Bool} {l : List Value} {off : Nat} {v : Value} [ha : AgC P t agg] [p : PartA P t agg l off v] : PartC P t l off v := ⟨fun h K hk => p.out h K ha.out hk⟩

/-- The comparison of two values, at a depth that suffices. -/
class EqC (P : Program) (m : Nat) (t : TypeId) (x y : Value) (r : outParam Bool) : Prop where out : ∀ (d : Nat) (h : LH) (K : Out Bool → LH → Prop), K (.ok r) h → wps P (Op.equalIn (d + m) t x y) h K
class EqFC (P : Program) (m : Nat) (fs : List (TypeId × Nat)) (xs ys : List Value) (r : outParam Bool) : Prop where
  out : ∀ (d : Nat) (h : LH) (K : Out (Option Bool × Unit) → LH → Prop) (l : List Field), l.map (fun f => (f.type, f.offset)) = fs → (∀ f ∈ l, f.name ≠ "_") → (r = false → K (.ok (some false, ())) h) → (r = true → K (.ok (none, ())) h) →
    wps P (forIn l ((none : Option Bool), ()) fun f _ =>
            if f.name ≠ "_" then do
              let x ← part f.type xs.toArray f.offset
              let y ← part f.type ys.toArray f.offset
              let b ← Op.equalIn (d + m) f.type x y
              if (!b) = true then pure (ForInStep.done (some false, ())) else pure (ForInStep.yield (none, ()))
            else pure (ForInStep.yield (none, ()))) h K
instance eqInt {m : Nat} {t : TypeId} {k k' : IntKind} {a b : Int} [hu : UlC P t (.int k')] : EqC P (m + 1) t (.int k a) (.int k b) (a == b) := ⟨fun d h K hk => by
  show wps P (Op.equalIn ((d + m) + 1) _ _ _) h K
  unfold Op.equalIn
  refine wps_bind' (wps_underlying hu.out ?_)
  simp only [if_true]
  exact wps_pure hk⟩
instance eqBool {m : Nat} {t : TypeId} {a b : Bool} [hu : UlC P t .bool] : EqC P (m + 1) t (.bool a) (.bool b) (a == b) := ⟨fun d h K hk => by
  show wps P (Op.equalIn ((d + m) + 1) _ _ _) h K
  unfold Op.equalIn
  refine wps_bind' (wps_underlying hu.out ?_)
  exact wps_pure hk⟩
instance eqFN {m : Nat} {xs ys : List Value} : EqFC P m [] xs ys true := ⟨fun d h K l hl _ _ hk => by
  obtain rfl : l = [] := by simpa using hl
  exact hk rfl⟩
instance eqFS {m : Nat} {t : TypeId} {off : Nat} {fs : List (TypeId × Nat)} {xs ys : List Value} {x y : Value} {b r : Bool} [px : PartC P t xs off x] [py : PartC P t ys off y] [p : EqC P m t x y b] [q : EqFC P m fs xs ys r] : EqFC P m ((t, off) :: fs) xs ys (b && r) := ⟨fun d h K l hl hn hf ht => by
  cases l with
  | nil => simp at hl
  | cons f l =>
    simp only [List.map_cons, List.cons.injEq, Prod.mk.injEq] at hl
    obtain ⟨⟨rfl, rfl⟩, hl⟩ := hl
    have hfn := hn f List.mem_cons_self
    simp only [List.forIn_cons, bind_assoc]
    rw [if_pos hfn]
    simp only [bind_assoc]
    refine wps_bind' (px.out _ _ ?_)
    refine wps_bind' (py.out _ _ ?_)
    refine wps_bind' (p.out d _ _ ?_)
    cases b with
    | false =>
      simp only [Bool.not_false, if_true, pure_bind]
      exact wps_pure (hf (by simp))
    | true =>
      simp only [Bool.not_true, Bool.false_eq_true, if_false, pure_bind]
      simp only [Bool.true_and] at hf ht
      exact q.out d h K l hl (fun g hg => hn g (List.mem_cons_of_mem _ hg)) hf ht⟩
instance eqStruct {m : Nat} {t : TypeId} {fs : List (TypeId × Nat)} {xs ys : List Value} {r : Bool} [hf : FlsC P t fs] [p : EqFC P m fs xs ys r] : EqC P (m + 1) t (.agg xs.toArray) (.agg ys.toArray) r := ⟨fun d h K hk => by
  have h0 := hf.out
  unfold flB at h0
  cases hu : P.underlying t with
  | none => simp [hu] at h0
  | some dsc =>
    rw [hu] at h0
    cases dsc <;> simp only [reduceCtorEq] at h0
    rename_i fa
    obtain ⟨l⟩ := fa
    by_cases hc : (l.all (fun f => f.name != "_") && !P.stoodInHeld t) = true
    · rw [if_pos hc, Option.some.injEq] at h0
      simp only [Bool.and_eq_true, List.all_eq_true, Bool.not_eq_true', bne_iff_ne, ne_eq] at hc
      show wps P (Op.equalIn ((d + m) + 1) _ _ _) h K
      unfold Op.equalIn
      refine wps_bind' (wps_underlying hu ?_)
      dsimp only
      refine wps_bind' (wps_program ?_)
      simp only [hc.2, Bool.false_eq_true, if_false, List.forIn_toArray]
      refine wps_bind' (p.out d h _ l h0 hc.1 (fun e => ?_) (fun e => ?_)) <;> subst e <;> exact wps_pure hk
    · rw [if_neg hc] at h0; cases h0⟩
/-- The array of two. -/
instance eqArr2 {m : Nat} {t e : TypeId} {a b c d : Bool} [hu : UlC P t (.array 2 e)] [he : UlC P e .bool] [hz : SzC P e 1] [ha : AgC P e false] : EqC P (m + 2) t (.agg (List.toArray [.bool a, .bool b])) (.agg (List.toArray [.bool c, .bool d])) ((a == c) && (b == d)) := ⟨fun k h K hk => by
  show wps P (Op.equalIn ((k + m + 1) + 1) _ _ _) h K
  unfold Op.equalIn
  refine wps_bind' (wps_underlying hu.out ?_)
  dsimp only
  refine wps_bind' (wps_sizeOf hz.out ?_)
  have p0 : ∀ (u v : Bool) (K : Out Value → LH → Prop), K (.ok (.bool u)) h → wps P (part e (List.toArray [.bool u, .bool v]) (0 * 1)) h K := fun u v K hK => (partS (P := P) (t := e) (l := [.bool u, .bool v]) (off := 0)).out h K ha.out hK
  have p1 : ∀ (u v : Bool) (K : Out Value → LH → Prop), K (.ok (.bool v)) h → wps P (part e (List.toArray [.bool u, .bool v]) (1 * 1)) h K := fun u v K hK => (partS (P := P) (t := e) (l := [.bool u, .bool v]) (off := 1)).out h K ha.out hK
  have eb : ∀ (u v : Bool) (K : Out Bool → LH → Prop), K (.ok (u == v)) h → wps P (Op.equalIn (k + m + 1) e (.bool u) (.bool v)) h K := fun u v K hK => (eqBool (P := P) (m := 0) (t := e) (a := u) (b := v)).out (k + m) h K hK
  simp only [Std.Legacy.Range.forIn_eq_forIn_range', Std.Legacy.Range.size]
  simp only [show List.range' 0 ((2 - 0 + 1 - 1) / 1) 1 = [0, 1] from rfl, List.forIn_cons, List.forIn_nil, bind_assoc]
  refine wps_bind' (p0 a b _ ?_)
  refine wps_bind' (p0 c d _ ?_)
  refine wps_bind' (eb a c _ ?_)
  cases hac : (a == c) with
  | false =>
    simp only [Bool.not_false, if_true, pure_bind]
    refine wps_pure ?_
    simpa [hac] using hk
  | true =>
    simp only [Bool.not_true, Bool.false_eq_true, if_false, pure_bind, bind_assoc]
    refine wps_bind' (p1 a b _ ?_)
    refine wps_bind' (p1 c d _ ?_)
    refine wps_bind' (eb b d _ ?_)
    cases hbd : (b == d) with
    | false =>
      simp only [Bool.not_false, if_true, pure_bind]
      refine wps_pure ?_
      simpa [hac, hbd] using hk
    | true =>
      simp only [Bool.not_true, Bool.false_eq_true, if_false, pure_bind]
      refine wps_pure ?_
      simpa [hac, hbd] using hk⟩
class EgC (P : Program) (t : TypeId) : Prop where out : P.eqGuardType P.depth t = false
instance pEqA {t t' ty : TypeId} {x y : Operand} {xs ys : Array Value} {r : Bool} [hx : EvC n E x (.agg xs)] [hy : EvC n E y (.agg ys)] [hg : EgC P t] [p : EqC P 4 t (.agg xs) (.agg ys) r] : PopC P n E h (.binOp .eql t x y t') ty (.bool r) := ⟨by
  intro dst pos after guard h' hxt
  have hx' := hx.out
  have hy' := hy.out
  simp only [Ev] at hx' hy'
  simp only [execOp, hx', hy']
  refine wps_v (v := .bool r) ?_ ⟨rfl, rfl⟩
  refine wps_bind' ?_
  unfold eqGuard
  simp only [Bool.not_true, Bool.false_eq_true, if_false]
  refine wps_bind' (wps_program ?_)
  dsimp only
  refine wps_bind' (wps_program ?_)
  dsimp only
  rw [hg.out]
  simp only [Bool.not_false, if_true]
  refine wps_pure ?_
  unfold binOp
  refine wps_bind' ?_
  unfold Op.equal
  exact p.out 9996 _ _ (wps_pure ⟨rfl, rfl⟩)⟩
/-- .. of a slice with nil. -/
instance pEqNil {t t' ty el : TypeId} {x : Operand} {a : Option Addr} {m c : Nat} [hu : UlC P t (.slice el)] [hx : EvC n E x (.slice a m c)] : PopC P n E h (.binOp .eql t x (.const (.slice none 0 0)) t') ty (.bool a.isNone) := ⟨by
  intro dst pos after guard h' hxt
  have hx' := hx.out
  simp only [Ev] at hx'
  have hc : ev n E (.const (.slice none 0 0)) = .slice none 0 0 := rfl
  simp only [execOp, hx', hc]
  refine wps_v (v := .bool a.isNone) ?_ ⟨rfl, rfl⟩
  refine wps_bind' ?_
  unfold eqGuard
  refine wps_pure ?_
  unfold binOp
  refine wps_bind' ?_
  unfold Op.equal
  show wps P (Op.equalIn (9999 + 1) _ _ _) _ _
  unfold Op.equalIn
  refine wps_bind' (wps_underlying hu.out ?_)
  cases a with
  | none => exact wps_pure (wps_pure ⟨rfl, rfl⟩)
  | some a => exact wps_pure (wps_pure ⟨rfl, rfl⟩)⟩

/-! ### quotients -/
class Ne0 (z : Int) : Prop where out : z ≠ 0
instance bQuo {a c r : Int} [hn : Ne0 c] [w : WrapC (a.tdiv c) r] : BinC .quo (.int .i64 a) (.int .i64 c) (.int .i64 r) := ⟨fun P n E h t t' ty x y hx hy => Pop.bin hx hy fun h' => by
  unfold binOp
  simp only [ne_eq, not_true_eq_false, if_false]
  unfold Op.intDiv
  rw [if_neg hn.out]
  exact ⟨rfl, by rw [w.out]⟩⟩
instance bRem {a c : Int} [hn : Ne0 c] : BinC .rem (.int .i64 a) (.int .i64 c) (.int .i64 (a.tmod c)) := ⟨fun P n E h t t' ty x y hx hy => Pop.bin hx hy fun h' => by
  unfold binOp
  simp only [ne_eq, not_true_eq_false, if_false]
  unfold Op.intDiv
  rw [if_neg hn.out]
  exact ⟨rfl, rfl⟩⟩


/-! ### slices by their elements -/
theorem OpS.buildSlice {t el : TypeId} {len sz : Nat} {ps : List (Nat × Operand)} {vs : List (Nat × Value)} {c z : List Value} (hu : P.underlying t = some (.slice el)) (hz : szB P el = some sz) (hzr : zrL P el = some z) (hv : ps.map (fun p => (p.1, ev b.n E p.2)) = vs) (hle : len * sz ≤ 16777216)
    (hf : Instr.fill (fun i => some (i * sz, sz)) ((Array.range (len * sz)).map (z.toArray[· % z.toArray.size]!)) vs = some c.toArray)
    (hk : ∀ p, h.get p = none → K (putE E dst (.slice (some ⟨p, 0, none⟩) len len)) ds (h.upd p (.cells c.toArray el (0, 0)))) :
    OpS P S b cs ops ⟨dst, .buildSlice t len ps.toArray, ty, pos, after, none⟩ E ds h K := by
  refine OpS.of rfl ?_
  simp only [execOp, List.map_toArray]
  have e0 : (List.map (fun (x : Nat × Operand) => match x with | (i, x) => (i, ev b.n E x)) ps) = vs := by rw [← hv]
  rw [e0]
  refine wps_bind' ?_
  unfold Instr.buildSlice
  refine wps_bind' (wps_underlying hu ?_)
  dsimp only
  refine wps_bind' (wps_sizeOf hz ?_)
  have hno : ¬ len * sz > 2 ^ 24 := by omega
  dsimp only
  rw [if_neg hno]
  have fin : ∀ zero : Array Value, (Array.range (len * sz)).map (zero[· % zero.size]!) = (Array.range (len * sz)).map (z.toArray[· % z.toArray.size]!) → wps P (match Instr.fill (fun i => some (i * sz, sz)) (Array.map (fun x => zero[x % zero.size]!) (Array.range (len * sz))) vs with
      | some cells => do
        let a ← newRow el cells
        pure (Value.slice (some a) len len)
      | _ => stuck "buildSlice: a part of the wrong size") h fun o h' => match o with | .ok a => wps P (pure (Next.value a)) h' (NextO P S b cs E ds dst K) | .panic v => NextO P S b cs E ds dst K (.panic v) h' := by
    intro zero hzero
    rw [hzero, hf]
    refine wps_bind' (s := newRow _ _) (wps_bind' (fun p hp => ?_))
    exact wps_pure (wps_pure (wps_pure (hk p hp)))
  by_cases h0 : len * sz = 0
  · rw [if_pos h0]
    refine wps_bind' (wps_pure ?_)
    dsimp only
    refine wps_mono (fun o h' x => ?_) _ _ (fin #[] (by rw [h0]; simp))
    cases o <;> exact x
  · rw [if_neg h0]
    unfold zrL at hzr
    cases hzv : zrB P el with
    | none => simp [hzv] at hzr
    | some zv =>
    simp only [hzv, Option.map_some, Option.some.injEq] at hzr
    simp only [bind_assoc, pure_bind]
    refine wps_bind' (wps_zeroValue hzv ?_)
    dsimp only
    refine wps_mono (fun o h' x => ?_) _ _ (fin zv.cells (by rw [← hzr]))
    cases o <;> exact x

/-- What the parts make. -/
class BsC (len sz : Nat) (z : List Value) (vs : List (Nat × Value)) (c : outParam (List Value)) : Prop where
  out : len * sz ≤ 16777216 ∧ Instr.fill (fun i => some (i * sz, sz)) ((Array.range (len * sz)).map (z.toArray[· % z.toArray.size]!)) vs = some c.toArray
instance bs0 {sz : Nat} {z : List Value} : BsC 0 sz z [] [] := ⟨by simp, by simp [Instr.fill]⟩
theorem fill1 {z c l : List Value} (hz : z.length = l.length) (hc : c = l) : (l.toArray.zipIdx.foldl (fun (cs : Array Value) (c, j) => cs.setIfInBounds (0 + j) c) z.toArray) = c.toArray := by
  have := setIf_eq z l 0 (by omega)
  rw [this, hc]
  simp [← hz]
instance bs1 {sz : Nat} {z l : List Value} {v : Value} [hl : CellsC v l] [hn : LenC l sz] [hle : GtC sz 16777216] : BsC 1 sz z [(0, v)] l := ⟨by have := hle.out; omega, by
  have h1 := hl.out
  have h2 := hn.out
  simp only [Instr.fill]
  have e1 : v.cells.size = sz := by rw [h1]; simp [h2]
  rw [if_neg (by simp [e1])]
  rw [h1]
  have h3 : ((Array.range (1 * sz)).map (z.toArray[· % z.toArray.size]!)) = ((List.range sz).map (z.toArray[· % z.toArray.size]!)).toArray := by
    apply Array.ext'; simp
  rw [h3]
  have := fill1 (z := (List.range sz).map (z.toArray[· % z.toArray.size]!)) (c := l) (l := l) (by simp [h2]) rfl
  simp only [Nat.zero_mul]
  rw [this]⟩
instance bs2 {z : List Value} {v w : Value} [hv : SingleC v] [hw : SingleC w] : BsC 2 1 z [(0, v), (1, w)] [v, w] := ⟨by omega, by
  have h1 := cells_single hv.out
  have h2 := cells_single hw.out
  have e : (Array.range (2 * 1)).map (z.toArray[· % z.toArray.size]!) = #[z.toArray[0 % z.toArray.size]!, z.toArray[1 % z.toArray.size]!] := by
    apply Array.ext'; simp [List.range_succ]
  rw [e]
  simp [Instr.fill, h1, h2]⟩

theorem W.bs {t el : TypeId} {len sz : Nat} {ps : List (Nat × Operand)} {vs : List (Nat × Value)} {c z : List Value} {l os : List Oper} {Fin : Env → List Deferred → LH → Prop} [hu : UlC P t (.slice el)] [hz : SzC P el sz] [hzr : ZrC P el z] [hv : EvPC b.n E ps vs] [hf : BsC len sz z vs c]
    (hk : ∀ p, FreshAt h p → WL P S b cs l.toArray Fin os (putE E dst (.slice (some ⟨p, 0, none⟩) len len)) ds (h.upd p (.cells c.toArray el (0, 0)))) :
    WL P S b cs l.toArray Fin (⟨dst, .buildSlice t len ps.toArray, ty, pos, after, none⟩ :: os) E ds h :=
  OpS.buildSlice hu.out hz.out hzr.out hv.out hf.out.1 hf.out.2 fun p hp => hk p ⟨hp⟩

/-- A slice that is a whole block, read in parts of sz cells. -/
class ChC (sz : Nat) (c : List Value) (m : Nat) (xs : outParam (List (List Value))) : Prop where out : xs.length = m ∧ m * sz ≤ c.length ∧ ∀ i cs, xs[i]? = some cs → cs.length = sz ∧ cs = (c.drop (i * sz)).take sz
instance ch1 : ChC 1 [] 0 [] := ⟨rfl, by simp, fun i cs h => by simp at h⟩
instance ch1S {v : Value} {c : List Value} {m : Nat} {xs : List (List Value)} [p : ChC 1 c m xs] : ChC 1 (v :: c) (m + 1) ([v] :: xs) := ⟨by simp [p.out.1], by have := p.out.2.1; simp; omega, fun i cs h => by
  cases i with
  | zero => simp at h; subst h; simp
  | succ i =>
    have := p.out.2.2 i cs (by simpa using h)
    simpa using this⟩

theorem W.append {t1 t2 el el2 : TypeId} {x y : Operand} {s v : Value} {sz by_ : Nat} {xs ys : List (List Value)} {z : List Value} {l os : List Oper} {Fin : Env → List Deferred → LH → Prop} [hx : EvC b.n E x s] [hy : EvC b.n E y v] [hu : UlC P t1 (.slice el)] [hu2 : UlC P t2 (.slice el2)]
    [hz : SzC P el sz] [hzr : ZrC P el z] [hzl : LenC z sz] (hb : byB P el = some by_) (hs : SlW h sz s xs) (hv : SlE h sz v ys) (hsg : Sgl ys.flatten) (hlim : (2 * (xs.length + ys.length) + 192) * by_ ≤ 281474976710656) (hlen : xs.length + ys.length ≤ 9223372036854775807)
    (hk : ∀ s' h', SlW h' sz s' (xs ++ ys) → FrW h h' s → (blkOf s' = blkOf s ∨ ∃ p, blkOf s' = some p ∧ h.get p = none) → WL P S b cs l.toArray Fin os (putE E dst s') ds h') :
    WL P S b cs l.toArray Fin (⟨dst, .call { callee := .builtin .append, args := #[x, y], argTypes := #[t1, t2] }, ty, pos, after, none⟩ :: os) E ds h :=
  OpS.append hx.out hy.out hu.out hu2.out hz.out hb hzr.out hzl.out hs hv hsg hlim hlen hk
instance (priority := high) pLenM {α : Type} {f : α → List Value} {ls : List α} {t el : TypeId} {x : Operand} {v : Value} {sz : Nat} [hu : UlC P t (.slice el)] [hx : EvC n E x v] [hs : SlC h sz v (ls.map f)] : PopC P n E h (.call { callee := .builtin .len, args := #[x], argTypes := #[t] }) ty (.int .i64 ls.length) := ⟨by
  have := Pop.len (ty := ty) hu.out hx.out hs.out
  simpa using this⟩
end
end Go.SL
/-
  The calculus of local heaps, part eleven: ranges over functions, their side conditions found by search.
-/
namespace Go.SL
open Go.Conc (G)

instance (priority := 1500) e0F {h₀ h : LH} {b : Nat} {o : Obj} [q : FreshAt h b] [p : Ext0 h₀ h] : Ext0 h₀ (h.upd b o) := ⟨Ext.upd p.out q.out⟩

theorem SlW.dom {h : LH} {sz b : Nat} {v : Value} {xs : List (List Value)} (w : SlW h sz v xs) (hb : blkOf v = some b) : h.get b ≠ none := by
  obtain ⟨_, ⟨rfl, _⟩ | ⟨p, off, cap, c, e, rfl, h2, h3, h4, h5, h6⟩⟩ := w
  · simp [blkOf] at hb
  · simp only [blkOf, Option.some.injEq] at hb
    subst hb
    intro e
    simp only [HG] at h4
    rw [h4] at e; cases e
theorem SlW.frw {h h' : LH} {sz : Nat} {v s : Value} {xs : List (List Value)} (w : SlW h sz v xs) (f : FrW h h' s) (hn : ∀ b, blkOf v = some b → blkOf s ≠ some b) : SlW h' sz v xs := by
  obtain ⟨hl, h0 | ⟨p, off, cap, c, e, rfl, h2, h3, h4, h5, h6⟩⟩ := w
  · exact ⟨hl, .inl h0⟩
  · exact ⟨hl, .inr ⟨p, off, cap, c, e, rfl, h2, f.own _ h3, f.get _ _ h4 (hn p rfl), h5, h6⟩⟩

/-- Slices that one may write, found by search. -/
class NewC (h : outParam LH) (v : Value) : Prop where out : NewB h v
class NbC (v : Value) (p : Nat) : Prop where out : blkOf v ≠ some p
class SlwC (h : LH) (sz : outParam Nat) (v : Value) (xs : outParam (List (List Value))) : Prop where out : SlW h sz v xs
instance nbN {h : LH} {v : Value} {p : Nat} [n : NewC h v] [d : DomC h p] : NbC v p := ⟨fun e => d.out (n.out p e)⟩
instance (priority := high) slwF {h : LH} {sz p : Nat} {v : Value} {xs : List (List Value)} {o : Obj} [f : FreshAt h p] [w : SlwC h sz v xs] : SlwC (h.upd p o) sz v xs := ⟨w.out.ne fun e => w.out.dom e f.out⟩
instance slwU {h : LH} {sz p : Nat} {v : Value} {xs : List (List Value)} {o : Obj} [n : NbC v p] [w : SlwC h sz v xs] : SlwC (h.upd p o) sz v xs := ⟨w.out.ne n.out⟩
instance slwX {h h' : LH} {sz : Nat} {v : Value} {xs : List (List Value)} [q : ExtC h h'] [w : SlwC h sz v xs] : SlwC h' sz v xs := ⟨w.out.ext q.out⟩
instance (priority := low) slOfW {h : LH} {sz : Nat} {v : Value} {xs : List (List Value)} [w : SlwC h sz v xs] : SlC h sz v xs := ⟨w.out.sle⟩

theorem FrW.hg {h h' : LH} {s : Value} {b : Nat} {o : Obj} (f : FrW h h' s) [g : HGC h b o] [n : NbC s b] : HGC h' b o := ⟨f.get _ _ g.out n.out⟩
theorem FrW.ow {h h' : LH} {s : Value} {b : Nat} (f : FrW h h' s) [g : OwnC h b] : OwnC h' b := ⟨f.own _ g.out⟩
theorem FrW.sl {h h' : LH} {s v : Value} {sz : Nat} {xs : List (List Value)} (f : FrW h h' s) [w : SlwC h sz v xs] (hn : ∀ b, blkOf v = some b → blkOf s ≠ some b) : SlwC h' sz v xs := ⟨w.out.frw f hn⟩

/-- The record of a range over a function. -/
def lpr (st : LoopState) (pd : Option Code) (fn : FuncId) (tmps : Array Value) (params : Array Tmp) (assign body : Code) (r : Nat) : Loop := { state := st, pending := pd, fn, tmps, params, assign, body, defers := r }

/-- h is h₀, and more, but for block l. -/
class ExtB (l : Nat) (h₀ h : LH) : Prop where out : (∀ b o, b ≠ l → h₀.get b = some o → h.get b = some o) ∧ (∀ b, h₀.own b → h.own b) ∧ h.gh = h₀.gh
instance (priority := low) ebR {l : Nat} {h₀ h : LH} [p : Ext0 h₀ h] : ExtB l h₀ h := ⟨fun b o _ hb => p.out.get b o hb, p.out.own, p.out.gh⟩
instance (priority := high) ebL {l : Nat} {h₀ h : LH} {o : Obj} [p : ExtB l h₀ h] : ExtB l h₀ (h.upd l o) := ⟨fun b z hn hb => by simp only [LH.upd, if_neg hn]; exact p.out.1 b z hn hb, fun b hb => .inl (p.out.2.1 b hb), p.out.2.2⟩
instance ebU {l c : Nat} {h₀ h : LH} {o : Obj} [q : FreshAt h c] [p : ExtB l h₀ h] : ExtB l h₀ (h.upd c o) := ⟨fun b z hn hb => by
  have := p.out.1 b z hn hb
  have hc : b ≠ c := fun e => by subst e; rw [q.out] at this; cases this
  simp only [LH.upd, if_neg hc]; exact this, fun b hb => .inl (p.out.2.1 b hb), p.out.2.2⟩
instance ebF {l c : Nat} {h₀ h : LH} {o : Obj} [q : Fresh0 h₀ c] [p : ExtB l h₀ h] : ExtB l h₀ (h.upd c o) := ⟨fun b z hn hb => by
  have hc : b ≠ c := fun e => by subst e; rw [q.out] at hb; cases hb
  simp only [LH.upd, if_neg hc]; exact p.out.1 b z hn hb, fun b hb => .inl (p.out.2.1 b hb), p.out.2.2⟩
instance ebX {l : Nat} {h₀ h h' : LH} [q : ExtC h h'] [p : ExtB l h₀ h] : ExtB l h₀ h' := ⟨fun b z hn hb => q.out.get b z (p.out.1 b z hn hb), fun b hb => q.out.own b (p.out.2.1 b hb), q.out.gh.trans p.out.2.2⟩
/-- What had been there, and is put back. -/
theorem ExtB.back {l : Nat} {h₀ h : LH} {o : Obj} (hg : HG h₀ l o) [p : ExtB l h₀ h] : Ext h₀ (h.upd l o) := by
  refine ⟨fun b z hb => ?_, fun b hb => .inl (p.out.2.1 b hb), p.out.2.2⟩
  simp only [LH.upd]
  split
  · subst b; exact hg.symm.trans hb
  · rename_i hne
    exact p.out.1 b z hne hb

section
variable {P : Program} {main : Bool} {S : LH → Goroutine → Prop} {b : Base} {E : Env} {ds : List Deferred} {k : List Item} {cs : List Frame} {h : LH} {n : Nat}
variable {fn f : FuncId} {tmps : Array Value} {params : Array Tmp} {assign body : Code} {r l : Nat} {pd : Option Code}

theorem R.range (hS : Regime P main S) {kd : CallKind} {x : Operand} {g : FuncId} {cap : List Value} [hf : EvC n E x (.func (.func g) #[] cap.toArray)] [hgo : GoC P g]
    (hk : ∀ (r l : Nat) (hs : LH) (tm : Array Value) (asg bd : Code), tm = arr n E → asg = assign → bd = body → ExtC h hs → FreshAt h r → FreshAt h l → NeB r l → HGC hs r (.deferred (some [])) → HGC hs l (.loop (lpr .ready none f tm params asg bd r)) → OwnC hs r → OwnC hs l →
      S hs (G (Frame.enter P g (.func (.yield l) #[] #[] :: cap).toArray .normal) ((⟨f, n, kd, none⟩ : Base).fr E ({ target := .collected r, args := #[] } :: ds) (.inRangeFunc l :: k) :: cs))) :
    S h (G ((⟨f, n, kd, none⟩ : Base).fr E ds (.code (.rangeFunc x params assign body) :: k)) cs) :=
  hS.rangeFunc (b := ⟨f, n, kd, none⟩) rfl hf.out hgo.out fun r l hr hl => by
    have hne : r ≠ l := fun e => by subst e; simp [LH.upd] at hl
    have hl0 : h.get l = none := by simp only [LH.upd] at hl; rw [if_neg (fun e => hne e.symm)] at hl; exact hl
    exact hk r l _ _ _ _ rfl rfl rfl ⟨((Ext.refl h).upd hr).upd hl⟩ ⟨hr⟩ ⟨hl0⟩ ⟨hne⟩ ⟨HG.ne HG.hit hne⟩ ⟨HG.hit⟩ ⟨Own.miss Own.hit⟩ ⟨Own.hit⟩

theorem R.begin (hS : Regime P main S) {kd : CallKind} [hg : HGC h l (.loop (lpr .ready pd fn tmps params assign body r))] [ho : OwnC h l] (hk : S (h.upd l (.loop (lpr .busy pd fn tmps params assign body r))) (G ((⟨f, n, kd, some l⟩ : Base).fr E ds k) cs)) :
    S h (G ((⟨f, n, kd, some l⟩ : Base).fr E ds (.beginRound :: k)) cs) := hS.beginRound (b := ⟨f, n, kd, some l⟩) rfl hg.out ho.out rfl hk
theorem R.endRound (hS : Regime P main S) {st : LoopState} {c : Frame} [hg : HGC h l (.loop (lpr st pd fn tmps params assign body r))] [ho : OwnC h l]
    (hk : S (h.upd l (.loop (lpr .ready none fn tmps params assign body r))) (G (c.finish (.bool true)) cs)) : S h (G ((⟨f, n, .normal, some l⟩ : Base).fr E ds []) (c :: cs)) := hS.roundEnd (b := ⟨f, n, .normal, some l⟩) rfl rfl hg.out ho.out hk
theorem R.retRound (hS : Regime P main S) {st : LoopState} {c : Frame} [hg : HGC h l (.loop (lpr st pd fn tmps params assign body r))] [ho : OwnC h l]
    (hk : S (h.upd l (.loop (lpr .done (some .ret) fn tmps params assign body r))) (G (c.finish (.bool false)) cs)) : S h (G ((⟨f, n, .normal, some l⟩ : Base).fr E ds (.code .ret :: k)) (c :: cs)) := hS.roundRet (b := ⟨f, n, .normal, some l⟩) rfl rfl hg.out ho.out hk
theorem R.endRangeDone (hS : Regime P main S) {v : Value} [hg : HGC h l (.loop (lpr .ready none fn tmps params assign body r))] [ho : OwnC h l]
    (hk : S (h.upd l (.loop (lpr .exhausted none fn tmps params assign body r))) (G (b.fr E ds k) cs)) : S h (G ((b.fr E ds (.inRangeFunc l :: k)).finish v) cs) := by
  rw [finish_range]; exact hS.endRange hg.out ho.out (by simp [lpr]) hk
theorem R.endRangeRet (hS : Regime P main S) {v : Value} [hg : HGC h l (.loop (lpr .done (some .ret) fn tmps params assign body r))] [ho : OwnC h l]
    (hk : S (h.upd l (.loop (lpr .exhausted (some .ret) fn tmps params assign body r))) (G (b.fr E ds (.code .ret :: k)) cs)) : S h (G ((b.fr E ds (.inRangeFunc l :: k)).finish v) cs) := by
  rw [finish_range]; exact hS.endRange hg.out ho.out (by simp [lpr]) hk
/-- A return past the deferred calls that a range collected: there are none. -/
theorem R.retC (hS : Regime P main S) {rs : List ResultVar} {vs : List Value} {c : Frame} [hf : FunC P f rs] [hg : HGC h r (.deferred (some []))] [ho : OwnC h r] [p : ResC P n E (h.upd r (.deferred none)) rs vs]
    (hk : S (h.upd r (.deferred none)) (G (c.finish (resOf vs)) cs)) : S h (G ((⟨f, n, .normal, none⟩ : Base).fr E [{ target := .collected r, args := #[] }] (.code .ret :: k)) (c :: cs)) := by
  obtain ⟨fn', h1, h2⟩ := hf.out
  refine hS.ret rfl (hS.backTaken (calls := []) ho.out hg.out ?_)
  exact hS.back (b := ⟨f, n, .normal, none⟩) h1 rfl (wps_results h2 p.out hk)
theorem R.round {tm : Array Value} {asg bd : Code} {j : Tmp} {v : Value} (e1 : tm = arr n E) (e2 : asg = assign) (e3 : bd = body) (hk : S h (G ((⟨f, n, .normal, some l⟩ : Base).fr (putE E (some j) v) [] [.code assign, .beginRound, .code body]) cs)) :
    S h (G (Frame.round l f (tm.setIfInBounds j v) asg bd .normal) cs) := by subst e1 e2 e3; rw [arr_set, round_eq]; exact hk
theorem W.yield1 {dst : Option Tmp} {ty : TypeId} {pos : String} {after : Array Edge} {ls os : List Oper} {Fin : Env → List Deferred → LH → Prop} {x y : Operand} {v : Value} {j : Tmp} {tys : Array TypeId} {R : Value → LH → Prop} [hf : EvC b.n E x (.func (.yield l) #[] #[])] [hy : EvC b.n E y v]
    [hg : HGC h l (.loop (lpr .ready pd fn tmps #[j] assign body r))]
    (hc : ∀ c : Frame, (∀ v h', R v h' → S h' (G (c.finish v) cs)) → S h (G (Frame.round l fn (tmps.setIfInBounds j v) assign body .normal) (c :: cs))) (hk : ∀ v h', R v h' → WL P S b cs ls.toArray Fin os (putE E dst v) ds h') :
    WL P S b cs ls.toArray Fin (⟨dst, .call { callee := .value x, args := #[y], argTypes := tys }, ty, pos, after, none⟩ :: os) E ds h := OpS.yield1 hf.out hy.out hg.out rfl hc hk

/-! ### parts of slices -/
/-- The first i elements. -/
def cutV (v : Value) (i : Nat) : Value :=
  match v with
  | .slice a _ c => .slice a i c
  | _ => undef
class LeC (i m : Nat) : Prop where out : i ≤ m
theorem SlE.cut {sz i : Nat} {v : Value} {xs : List (List Value)} (p : SlE h sz v xs) (hi : i ≤ xs.length) : SlE h sz (cutV v i) (xs.take i) := by
  obtain ⟨a, cap, rfl, hc, he⟩ := p
  refine ⟨a, cap, by simp [cutV, Nat.min_eq_left hi], by simp; omega, fun j cs hj => ?_⟩
  rw [List.getElem?_take] at hj
  split at hj
  · exact he j cs hj
  · cases hj
instance slCut {α : Type} {f : α → List Value} {ls : List α} {sz i : Nat} {v : Value} [p : SlC h sz v (ls.map f)] [q : LeC i ls.length] : SlC h sz (cutV v i) ((ls.take i).map f) := ⟨by
  have := p.out.cut (i := i) (by simpa using q.out)
  simpa [List.map_take] using this⟩
instance pCut {α : Type} {f : α → List Value} {ls : List α} {t el ty : TypeId} {x y : Operand} {v : Value} {sz i : Nat} {kk : IntKind} {z : Int} [hu : UlC P t (.slice el)] [hz : SzC P el sz] [hx : EvC n E x v] [hs : SlC h sz v (ls.map f)] [hy : EvC n E y (.int kk z)] [hn : NatC z i] [hi : LeC i ls.length] :
    PopC P n E h (.slice t x none (some y) none) ty (cutV v i) := ⟨by
  intro dst pos after guard h' hxt
  have hx' := hx.out
  have hy' := hy.out
  simp only [Ev] at hx' hy'
  obtain ⟨a, cap, rfl, hc, he⟩ := hs.out
  have hi' := hi.out
  have hlen : (ls.map f).length = ls.length := by simp
  have hzi := hn.out
  subst hzi
  simp only [execOp, hx', hy', Option.map_some, Option.map_none]
  refine wps_v (v := cutV (.slice a (ls.map f).length cap) i) ?_ ⟨rfl, rfl⟩
  unfold Instr.sliceAt
  refine wps_bind' (wps_underlying hu.out ?_)
  dsimp only
  unfold Instr.slice
  refine wps_bind' (wps_underlying hu.out ?_)
  dsimp only
  have hb : Instr.sliceBounds true (ls.map f).length cap none (some (.int kk (i : Nat))) none = pure (0, i, cap) := by
    unfold Instr.sliceBounds Instr.sliceBound asIntOf
    have h1 : (0 : Int) ≤ (i : Nat) ∧ ((i : Nat) : Int) ≤ (cap : Nat) := by omega
    have h2 : i ≤ cap := by omega
    simp [h1, h2]
  rw [hb]
  refine wps_bind' (wps_pure ?_)
  dsimp only
  refine wps_bind' (wps_sizeOf hz.out ?_)
  refine wps_pure ⟨rfl, ?_⟩
  have e1 : (if cap = 0 then a else a.map (·.add (0 * sz))) = a := by
    split
    · rfl
    · cases a <;> simp [Addr.add]
  simp only [cutV, e1, Nat.sub_zero]⟩

/-! ### a store into an element of an owned slice -/
theorem flat_set {sz : Nat} : ∀ {xs : List (List Value)} {i fo : Nat} {cs l cs'' : List Value}, (∀ x ∈ xs, x.length = sz) → xs[i]? = some cs → Wr cs fo l cs'' → xs.flatten.take (i * sz + fo) ++ l ++ xs.flatten.drop (i * sz + fo + l.length) = (xs.set i cs'').flatten
  | [], _, _, _, _, _, _, h, _ => by simp at h
  | x :: xs, 0, fo, cs, l, cs'', hl, hi, hw => by
    simp only [List.getElem?_cons_zero, Option.some.injEq] at hi
    subst hi
    obtain ⟨h1, h2⟩ := hw
    simp only [List.flatten_cons, Nat.zero_mul, Nat.zero_add, List.set_cons_zero]
    rw [List.take_append_of_le_length (by omega), List.drop_append_of_le_length (by omega), h1]
    simp
  | x :: xs, i + 1, fo, cs, l, cs'', hl, hi, hw => by
    have hx := hl x List.mem_cons_self
    have ih := flat_set (sz := sz) (fun y hy => hl y (List.mem_cons_of_mem _ hy)) (show xs[i]? = some cs by simpa using hi) hw
    simp only [List.flatten_cons, List.set_cons_succ]
    have e1 : (i + 1) * sz + fo = x.length + (i * sz + fo) := by rw [hx, Nat.add_mul]; omega
    have e2 : x.length + (i * sz + fo) + l.length = x.length + (i * sz + fo + l.length) := by omega
    rw [e1, e2, List.take_append, List.drop_append]
    have e3 : List.drop (x.length + (i * sz + fo + l.length)) x = [] := List.drop_eq_nil_of_le (by omega)
    have e4 : List.take (x.length + (i * sz + fo)) x = x := List.take_of_length_le (by omega)
    rw [e3, e4]
    simp only [Nat.add_sub_cancel_left, List.nil_append, List.append_assoc]
    rw [← ih]
    simp

theorem W.storeEl {t : TypeId} {dst : Option Tmp} {ty : TypeId} {pos : String} {after : Array Edge} {ls os : List Oper} {Fin : Env → List Deferred → LH → Prop} {x y : Operand} {v w : Value} {sz i fo m : Nat} {xs : List (List Value)} {cs' c' c'' : List Value} [hx : EvC b.n E x (elemPtr v sz i fo)] [hy : EvC b.n E y w] [hl : CellsC w c'] [hz : SzC P t m] [hn : LenC c' m] [hsg : SglC c']
    (hs : SlW h sz v xs) (hi : xs[i]? = some cs') [hw : WrC cs' fo c' c''] (hk : ∀ h', SlW h' sz v (xs.set i c'') → FrW h h' v → WL P S b cs ls.toArray Fin os (putE E dst undef) ds h') :
    WL P S b cs ls.toArray Fin (⟨dst, .store t x y, ty, pos, after, none⟩ :: os) E ds h := by
  obtain ⟨hlen, ⟨rfl, rfl⟩ | ⟨p, off, cap, c, e, rfl, h1, h2, h3, h4, h5⟩⟩ := hs
  · simp at hi
  · have hlt : i < xs.length := (List.getElem?_eq_some_iff.1 hi).1
    have hfl := flat_len hlen
    have hcl : cs'.length = sz := hlen cs' (List.mem_of_getElem? hi)
    have hmul : i * sz + sz ≤ xs.length * sz := by
      have := Nat.mul_le_mul_right sz (show i + 1 ≤ xs.length by omega)
      rw [Nat.add_mul] at this; omega
    have hmul2 : xs.length * sz ≤ cap * sz := Nat.mul_le_mul_right sz h1
    have hwr := hw.out
    have hfo : fo + c'.length ≤ sz := by have := hwr.2; omega
    have hnl := hn.out
    refine OpS.store (p := p) (off := off + i * sz + fo) (c := c) (l := c') (c'' := c.take (off + i * sz + fo) ++ c' ++ c.drop (off + i * sz + fo + c'.length)) (e := e) hx.out hy.out hl.out (by rw [hn.out]; exact hz.out) hsg.out h2 h3 ⟨rfl, by omega⟩ ?_
    refine hk _ ⟨fun z hz => ?_, .inr ⟨p, off, cap, _, e, by rw [List.length_set], by rw [List.length_set]; exact h1, Own.hit, HG.hit, ?_, ?_⟩⟩ ⟨fun b' o hb hne => ?_, fun b' hb => .inl hb, rfl⟩
    · rcases List.mem_or_eq_of_mem_set hz with hz | rfl
      · exact hlen z hz
      · have := hwr.1
        rw [this]
        simp only [List.length_append, List.length_take, List.length_drop]
        have := hwr.2
        omega
    · simp only [List.length_append, List.length_take, List.length_drop]; omega
    · rw [List.length_set, ← flat_set hlen hi hwr, ← h5]
      have e1 : (c.take (off + i * sz + fo)).length = off + i * sz + fo := by rw [List.length_take]; omega
      rw [List.append_assoc, List.drop_append_of_le_length (by omega), List.drop_take, List.take_append]
      have e2 : off + i * sz + fo - off = i * sz + fo := by omega
      rw [e2]
      have e3 : (List.take (i * sz + fo) (List.drop off c)).length = i * sz + fo := by rw [List.length_take, List.length_drop]; omega
      rw [List.take_of_length_le (by omega), e3, List.take_append, List.take_of_length_le (by omega : c'.length ≤ _), List.take_take, Nat.min_eq_left (by omega), List.drop_take, List.drop_drop]
      rw [List.append_assoc]
      congr 2
      rw [show off + i * sz + fo + c'.length = off + (i * sz + fo + c'.length) by omega]
      congr 1
      omega
    · have : b' ≠ p := fun e => hne (by simp [blkOf, e])
      simp [LH.upd, this, hb]

/-! ### slices by their elements, any number -/
class CatC (i sz : Nat) (vs : List (Nat × Value)) (m : Nat) (c : outParam (List Value)) : Prop where
  out : c.length = m * sz ∧ ∀ (pre rest : List Value), pre.length = i * sz → rest.length = m * sz → Instr.fill (fun i => some (i * sz, sz)) (pre ++ rest).toArray vs = some (pre ++ c).toArray
instance catN {i sz : Nat} : CatC i sz [] 0 [] := ⟨by simp, fun pre rest _ hr => by
  have : rest = [] := List.eq_nil_of_length_eq_zero (by simpa using hr)
  simp [Instr.fill, this]⟩
instance catS {i sz m : Nat} {v : Value} {vs : List (Nat × Value)} {l c r : List Value} [hl : CellsC v l] [hn : LenC l sz] [p : CatC (i + 1) sz vs m c] [ha : AppC l c r] : CatC i sz ((i, v) :: vs) (m + 1) r := ⟨by rw [← ha.out, List.length_append, hn.out, p.out.1, Nat.add_mul]; omega, fun pre rest hp hr => by
  rw [← ha.out]
  have h1 := hl.out
  have h2 := hn.out
  have hr' : rest.length = sz + m * sz := by rw [hr, Nat.add_mul]; omega
  simp only [Instr.fill]
  have e1 : v.cells.size = sz := by rw [h1]; simp [h2]
  rw [if_neg (by rw [e1]; simp; omega), h1, setIf_eq (pre ++ rest) l (i * sz) (by rw [List.length_append]; omega)]
  have e2 : (pre ++ rest).take (i * sz) = pre := by rw [List.take_append_of_le_length (by omega), List.take_of_length_le (by omega)]
  have e3 : (pre ++ rest).drop (i * sz + l.length) = rest.drop sz := by
    rw [List.drop_append, List.drop_eq_nil_of_le (by omega), List.nil_append]; congr 1; omega
  rw [e2, e3]
  have := p.out.2 (pre ++ l) (rest.drop sz) (by rw [List.length_append, hp, h2, Nat.add_mul]; omega) (by rw [List.length_drop]; omega)
  rw [this, List.append_assoc]⟩
instance (priority := low) bsN {len sz : Nat} {z : List Value} {vs : List (Nat × Value)} {c : List Value} [p : CatC 0 sz vs len c] [hle : GtC (len * sz) 16777216] : BsC len sz z vs c := ⟨Nat.le_of_lt hle.out, by
  have h3 : ((Array.range (len * sz)).map (z.toArray[· % z.toArray.size]!)) = ([] ++ (List.range (len * sz)).map (z.toArray[· % z.toArray.size]!)).toArray := by
    apply Array.ext'; simp
  rw [h3, p.out.2 [] _ (by simp) (by simp)]
  simp⟩
end
end Go.SL
/-
  The calculus of local heaps, part twelve: maps.
-/
namespace Go.SL
open Go.Conc (G)

/-- Keys of a type, told by κ: the comparison of two says whether they are the same. -/
class KeyC (P : Program) (t : TypeId) {κ : Type} [DecidableEq κ] (toK : κ → Value) : Prop where
  find : ∀ (k : κ) (es : List MapEntry) (l : List κ) (h : LH) (K : Out (Option (Nat × Value)) → LH → Prop), es.map (·.key) = l.map toK →
    (∀ (i : Nat) (e : MapEntry), l.findIdx? (· = k) = some i → es[i]? = some e → K (.ok (some (i, e.val))) h) → (l.findIdx? (· = k) = none → K (.ok none) h) → wps P (Instr.findKey t (toK k) es) h K
  check : ∀ (N : Nat) (_ : 4 ≤ N) (b : Bool) (k : κ) (h : LH) (K : Out Unit → LH → Prop), K (.ok ()) h → wps P (Instr.checkKey b N t (toK k)) h K
  bits : ∀ (N : Nat) (_ : 4 ≤ N) k, Instr.sameBits N (toK k) (toK k) = true

section
variable {κ : Type} [DecidableEq κ] {P : Program}
theorem findNow_of {kind : TypeDesc} {toK : κ → Value} (hs : ∀ a b : κ, Instr.sameNow kind (toK a) (toK b) = some (decide (a = b))) (k : κ) : ∀ (es : List MapEntry) (l : List κ) (i : Nat), es.map (·.key) = l.map toK →
    (∃ j e, l.findIdx? (· = k) = some j ∧ es[j]? = some e ∧ Instr.findNow kind (toK k) es i = some (some (i + j, e.val))) ∨ (l.findIdx? (· = k) = none ∧ Instr.findNow kind (toK k) es i = some none)
  | [], [], i, _ => .inr ⟨rfl, rfl⟩
  | [], x :: l, i, h => by simp at h
  | e :: es, [], i, h => by simp at h
  | e :: es, x :: l, i, h => by
    simp only [List.map_cons, List.cons.injEq] at h
    simp only [Instr.findNow, h.1, hs, List.findIdx?_cons]
    by_cases hx : k = x
    · subst hx
      left; exact ⟨0, e, by simp, rfl, by simp⟩
    · have hx' : ¬ x = k := fun e => hx e.symm
      simp only [hx, hx', decide_false, Bool.false_eq_true, if_false]
      rcases findNow_of hs k es l (i + 1) h.2 with ⟨j, e', h1, h2, h3⟩ | ⟨h1, h2⟩
      · left; exact ⟨j + 1, e', by simp [h1], by simpa using h2, by rw [h3]; congr 3; omega⟩
      · right; exact ⟨by simp [h1], h2⟩

theorem KeyC.ofNow {t : TypeId} {kind : TypeDesc} {toK : κ → Value} (hu : P.underlying t = some kind) (hs : ∀ a b : κ, Instr.sameNow kind (toK a) (toK b) = some (decide (a = b)))
    (hc : ∀ (N : Nat) (_ : 4 ≤ N) (b : Bool) (k : κ) (h : LH) (K : Out Unit → LH → Prop), K (.ok ()) h → wps P (Instr.checkKey b N t (toK k)) h K) (hb : ∀ (N : Nat) (_ : 4 ≤ N) k, Instr.sameBits N (toK k) (toK k) = true) : KeyC P t toK where
  find := by
    intro k es l h K hl h1 h2
    unfold Instr.findKey
    refine wps_bind' (wps_underlying hu ?_)
    rcases findNow_of hs k es l 0 hl with ⟨j, e, h3, h4, h5⟩ | ⟨h3, h5⟩
    · dsimp only; rw [h5]; dsimp only; rw [Nat.zero_add]; exact wps_pure (h1 j e h3 h4)
    · dsimp only; rw [h5]; exact wps_pure (h2 h3)
  check := hc
  bits := hb

theorem four : 4 ≤ Op.maxDepth := by unfold Op.maxDepth; omega
theorem findAsk_of {t : TypeId} {toK : κ → Value} (hs : ∀ (N : Nat) (_ : 4 ≤ N) (a b : κ) (h : LH) (K : Out Bool → LH → Prop), K (.ok (decide (a = b))) h → wps P (Op.equalIn N t (toK a) (toK b)) h K) (k : κ) : ∀ (es : List MapEntry) (l : List κ) (i : Nat) (h : LH) (K : Out (Option (Nat × Value)) → LH → Prop), es.map (·.key) = l.map toK →
    (∀ (j : Nat) (e : MapEntry), l.findIdx? (· = k) = some j → es[j]? = some e → K (.ok (some (i + j, e.val))) h) → (l.findIdx? (· = k) = none → K (.ok none) h) → wps P (Instr.findAsking t (toK k) es i) h K
  | [], [], i, h, K, _, h1, h2 => wps_pure (h2 rfl)
  | [], x :: l, i, _, _, h, _, _ => by simp at h
  | e :: es, [], i, _, _, h, _, _ => by simp at h
  | e :: es, x :: l, i, h, K, hl, h1, h2 => by
    simp only [List.map_cons, List.cons.injEq] at hl
    unfold Instr.findAsking
    rw [hl.1]
    unfold Op.equal
    refine wps_bind' (hs Op.maxDepth four k x h _ ?_)
    by_cases hx : k = x
    · subst hx
      simp only [decide_true, if_true]
      exact wps_pure (h1 0 e (by simp [List.findIdx?_cons]) rfl)
    · have hx' : ¬ x = k := fun e => hx e.symm
      simp only [hx, decide_false, Bool.false_eq_true, if_false]
      refine findAsk_of hs k es l (i + 1) h K hl.2 (fun j e' h3 h4 => ?_) (fun h3 => ?_)
      · have := h1 (j + 1) e' (by simp [List.findIdx?_cons, hx', h3]) (by simpa using h4)
        rw [show i + 1 + j = i + (j + 1) by omega]; exact this
      · exact h2 (by simp [List.findIdx?_cons, hx', h3])

theorem KeyC.ofAsk {t : TypeId} {kind : TypeDesc} {toK : κ → Value} (hu : P.underlying t = some kind) (hn : ∀ a b : κ, Instr.sameNow kind (toK a) (toK b) = none)
    (hs : ∀ (N : Nat) (_ : 4 ≤ N) (a b : κ) (h : LH) (K : Out Bool → LH → Prop), K (.ok (decide (a = b))) h → wps P (Op.equalIn N t (toK a) (toK b)) h K)
    (hc : ∀ (N : Nat) (_ : 4 ≤ N) (b : Bool) (k : κ) (h : LH) (K : Out Unit → LH → Prop), K (.ok ()) h → wps P (Instr.checkKey b N t (toK k)) h K) (hb : ∀ (N : Nat) (_ : 4 ≤ N) k, Instr.sameBits N (toK k) (toK k) = true) : KeyC P t toK where
  find := by
    intro k es l h K hl h1 h2
    unfold Instr.findKey
    refine wps_bind' (wps_underlying hu ?_)
    cases es with
    | nil =>
      obtain rfl : l = [] := by simpa using hl.symm
      exact wps_pure (h2 rfl)
    | cons e es =>
      cases l with
      | nil => simp at hl
      | cons x l =>
        have hx : e.key = toK x := by simp only [List.map_cons, List.cons.injEq] at hl; exact hl.1
        have : Instr.findNow kind (toK k) (e :: es) 0 = none := by simp only [Instr.findNow, hx, hn]
        dsimp only
        rw [this]
        exact findAsk_of hs k (e :: es) (x :: l) 0 h K hl (fun j e' h3 h4 => by rw [Nat.zero_add]; exact h1 j e' h3 h4) h2
  check := hc
  bits := hb
end
theorem MapI.keys {κ ν : Type} {toK : κ → Value} {toV : ν → Value} {es : Array MapEntry} {l : List (κ × ν)} (h : es.toList.map (fun e => (e.key, e.val)) = l.map (fun x => (toK x.1, toV x.2))) : es.toList.map (·.key) = (l.map Prod.fst).map toK := by
  have := congrArg (List.map Prod.fst) h
  simpa [List.map_map, Function.comp_def] using this

theorem entry_at {κ ν : Type} {toK : κ → Value} {toV : ν → Value} {es : Array MapEntry} {l : List (κ × ν)} (h : es.toList.map (fun e => (e.key, e.val)) = l.map (fun x => (toK x.1, toV x.2))) {i : Nat} {e : MapEntry} {x : κ × ν} (he : es.toList[i]? = some e) (hx : l[i]? = some x) : e.key = toK x.1 ∧ e.val = toV x.2 := by
  have := congrArg (·[i]?) h
  simp only [List.getElem?_map, he, hx, Option.map_some, Option.some.injEq, Prod.mk.injEq] at this
  exact this

theorem entries_len {κ ν : Type} {toK : κ → Value} {toV : ν → Value} {es : Array MapEntry} {l : List (κ × ν)} (h : es.toList.map (fun e => (e.key, e.val)) = l.map (fun x => (toK x.1, toV x.2))) : es.toList.length = l.length := by
  have := congrArg List.length h
  simpa using this


section
variable {κ ν : Type} [DecidableEq κ]
/-- What a map's entries say. -/
def MapI (toK : κ → Value) (toV : ν → Value) (es : Array MapEntry) (clock : Nat) (f : κ → Option ν) : Prop :=
  ∃ l : List (κ × ν), es.toList.map (fun e => (e.key, e.val)) = l.map (fun x => (toK x.1, toV x.2)) ∧ (l.map Prod.fst).Nodup ∧ (∀ k, l.lookup k = f k) ∧ (∀ e ∈ es.toList, e.born < clock) ∧ (es.toList.map (·.born)).Nodup

def updF (f : κ → Option ν) (k : κ) (v : ν) : κ → Option ν := fun k' => if k' = k then some v else f k'
def delF (f : κ → Option ν) (k : κ) : κ → Option ν := fun k' => if k' = k then none else f k'

theorem lookup_idx {l : List (κ × ν)} {k : κ} : (∀ i, (l.map Prod.fst).findIdx? (· = k) = some i → ∃ v, l[i]? = some (k, v) ∧ l.lookup k = some v) ∧ ((l.map Prod.fst).findIdx? (· = k) = none → l.lookup k = none) := by
  induction l with
  | nil => simp
  | cons x l ih =>
    obtain ⟨a, v⟩ := x
    simp only [List.map_cons, List.findIdx?_cons, List.lookup_cons]
    by_cases e : a = k
    · subst e
      simp
    · have e' : (k == a) = false := by simpa using fun h => e h.symm
      simp only [e, decide_false, Bool.false_eq_true, if_false, e', Option.map_eq_some_iff, Option.map_eq_none_iff]
      exact ⟨fun i hi => by obtain ⟨j, hj, rfl⟩ := hi; simpa using ih.1 j hj, ih.2⟩

theorem lookup_set {l : List (κ × ν)} {k : κ} {v : ν} {i : Nat} (hi : (l.map Prod.fst).findIdx? (· = k) = some i) : ∀ k', (l.set i (k, v)).lookup k' = if k' = k then some v else l.lookup k' := by
  induction l generalizing i with
  | nil => simp at hi
  | cons x l ih =>
    obtain ⟨a, u⟩ := x
    intro k'
    simp only [List.map_cons, List.findIdx?_cons] at hi
    by_cases e : a = k
    · subst e
      simp at hi
      subst hi
      simp only [List.set_cons_zero, List.lookup_cons]
      by_cases e : k' = a
      · simp [e]
      · have : (k' == a) = false := by simpa using e
        simp [e, this]
    · simp only [e, decide_false, Bool.false_eq_true, if_false, Option.map_eq_some_iff] at hi
      obtain ⟨j, hj, rfl⟩ := hi
      simp only [List.set_cons_succ, List.lookup_cons, ih hj]
      by_cases e2 : k' = a
      · subst e2
        simp [e]
      · have : (k' == a) = false := by simpa using e2
        simp [this]

theorem lookup_append {l : List (κ × ν)} {k : κ} {v : ν} (hn : l.lookup k = none) : ∀ k', (l ++ [(k, v)]).lookup k' = if k' = k then some v else l.lookup k' := by
  induction l with
  | nil =>
    intro k'
    simp only [List.nil_append, List.lookup_cons, List.lookup_nil]
    by_cases e : k' = k
    · simp [e]
    · have : (k' == k) = false := by simpa using e
      simp [e, this]
  | cons x l ih =>
    obtain ⟨a, u⟩ := x
    intro k'
    simp only [List.lookup_cons] at hn
    cases hk : (k == a) with
    | true => rw [hk] at hn; simp at hn
    | false =>
      rw [hk] at hn
      simp only [List.cons_append, List.lookup_cons, ih hn]
      by_cases e2 : k' = a
      · subst e2
        have : ¬ k' = k := fun e => by subst e; simp at hk
        simp [this]
      · have : (k' == a) = false := by simpa using e2
        simp [this]

theorem lookup_erase {l : List (κ × ν)} {k : κ} {i : Nat} (hi : (l.map Prod.fst).findIdx? (· = k) = some i) (hnd : (l.map Prod.fst).Nodup) : ∀ k', (l.eraseIdx i).lookup k' = if k' = k then none else l.lookup k' := by
  induction l generalizing i with
  | nil => simp at hi
  | cons x l ih =>
    obtain ⟨a, u⟩ := x
    intro k'
    simp only [List.map_cons, List.findIdx?_cons] at hi
    simp only [List.map_cons, List.nodup_cons] at hnd
    by_cases e : a = k
    · subst e
      simp at hi
      subst hi
      simp only [List.eraseIdx_zero, List.tail_cons, List.lookup_cons]
      by_cases e : k' = a
      · subst e
        simp only [if_true]
        cases hl : l.lookup k' with
        | none => rfl
        | some v =>
          exfalso
          apply hnd.1
          rw [List.lookup_eq_some_iff] at hl
          obtain ⟨l₁, l₂, hl, _⟩ := hl
          rw [hl]; simp
      · have : (k' == a) = false := by simpa using e
        simp [e, this]
    · simp only [e, decide_false, Bool.false_eq_true, if_false, Option.map_eq_some_iff] at hi
      obtain ⟨j, hj, rfl⟩ := hi
      simp only [List.eraseIdx_cons_succ, List.lookup_cons, ih hj hnd.2]
      by_cases e2 : k' = a
      · subst e2
        simp [e]
      · have : (k' == a) = false := by simpa using e2
        simp [this]

variable {toK : κ → Value} {toV : ν → Value}

theorem MapI.nil : MapI toK toV #[] 0 (fun _ => none) := ⟨[], by simp⟩

theorem modify_toList (es : Array MapEntry) (i : Nat) (g : MapEntry → MapEntry) : (es.modify i g).toList = es.toList.modify i g := by simp

theorem MapI.push {es : Array MapEntry} {c : Nat} {f : κ → Option ν} (m : MapI toK toV es c f) {k : κ} (v : ν) (hn : f k = none) : MapI toK toV (es.push { key := toK k, val := toV v, born := c }) (c + 1) (updF f k v) := by
  obtain ⟨l, h1, h2, h3, h4, h5⟩ := m
  refine ⟨l ++ [(k, v)], by simp [h1], ?_, ?_, ?_, ?_⟩
  · rw [List.map_append, List.nodup_append]
    refine ⟨h2, by simp, ?_⟩
    intro a ha b hb e
    simp at hb
    subst hb; subst e
    have := (lookup_idx (l := l) (k := a)).2
    rw [← h3] at hn
    obtain ⟨x, hx, rfl⟩ := List.mem_map.1 ha
    rw [List.lookup_eq_none_iff] at hn
    have := hn x hx
    simp at this
  · intro k'
    rw [lookup_append (by rw [h3]; exact hn), h3]; rfl
  · intro e he
    simp at he
    rcases he with he | rfl
    · have := h4 e (by simpa using he); omega
    · simp
  · simp only [Array.toList_push, List.map_append, List.map_cons, List.map_nil]
    rw [List.nodup_append]
    refine ⟨h5, by simp, ?_⟩
    intro a ha b hb e
    simp at hb
    subst hb; subst e
    obtain ⟨x, hx, hx2⟩ := List.mem_map.1 ha
    have := h4 x hx; omega

theorem MapI.modify {es : Array MapEntry} {c : Nat} {f : κ → Option ν} {l : List (κ × ν)} (h1 : es.toList.map (fun e => (e.key, e.val)) = l.map (fun x => (toK x.1, toV x.2))) (h2 : (l.map Prod.fst).Nodup) (h3 : ∀ k, l.lookup k = f k) (h4 : ∀ e ∈ es.toList, e.born < c) (h5 : (es.toList.map (·.born)).Nodup)
    {k : κ} {i : Nat} (hi : (l.map Prod.fst).findIdx? (· = k) = some i) (v : ν) {g : MapEntry → MapEntry} (hg : ∀ e, es.toList[i]? = some e → g e = { e with key := toK k, val := toV v }) : MapI toK toV (es.modify i g) c (updF f k v) := by
  obtain ⟨u, hu, hlk⟩ := (lookup_idx (l := l) (k := k)).1 i hi
  have hlt : i < l.length := (List.getElem?_eq_some_iff.1 hu).1
  have hle := entries_len h1
  have hlt' : i < es.toList.length := by omega
  have hs : es.toList.modify i g = es.toList.set i { es.toList[i] with key := toK k, val := toV v } := by
    rw [← hg es.toList[i] (by simp [hlt'])]
    apply List.ext_getElem
    · simp
    · intro j h1 h2
      by_cases e : i = j
      · subst e; simp
      · simp [e]
  refine ⟨l.set i (k, v), ?_, ?_, ?_, ?_, ?_⟩
  · rw [modify_toList, hs, List.map_set, List.map_set, h1]
  · rw [List.map_set]
    have : (l.map Prod.fst).set i k = l.map Prod.fst := by
      apply List.ext_getElem
      · simp
      · intro j h1 h2
        by_cases e : i = j
        · subst e
          have := (List.getElem?_eq_some_iff.1 hu).2
          simp [this]
        · simp [e]
    rw [this]; exact h2
  · intro k'
    rw [lookup_set hi, h3]; rfl
  · intro e he
    rw [modify_toList, hs] at he
    rcases List.mem_or_eq_of_mem_set he with he | rfl
    · exact h4 e he
    · exact h4 es.toList[i] (List.getElem_mem hlt')
  · rw [modify_toList, hs, List.map_set]
    have : (es.toList.map (·.born)).set i es.toList[i].born = es.toList.map (·.born) := by
      apply List.ext_getElem
      · simp
      · intro j h1 h2
        by_cases e : i = j
        · subst e; simp
        · simp [e]
    rw [this]; exact h5

theorem updF_self {f : κ → Option ν} {k : κ} {v : ν} (h : f k = some v) : updF f k v = f := by
  funext k'; unfold updF; split
  · rename_i e; rw [e, h]
  · rfl

theorem eraseIdx_map' {α β : Type} (g : α → β) : ∀ (l : List α) (i : Nat), (l.eraseIdx i).map g = (l.map g).eraseIdx i
  | [], _ => rfl
  | _ :: _, 0 => rfl
  | x :: l, i + 1 => by simp [eraseIdx_map' g l i]
theorem MapI.erase {es : Array MapEntry} {c : Nat} {f : κ → Option ν} {l : List (κ × ν)} (h1 : es.toList.map (fun e => (e.key, e.val)) = l.map (fun x => (toK x.1, toV x.2))) (h2 : (l.map Prod.fst).Nodup) (h3 : ∀ k, l.lookup k = f k) (h4 : ∀ e ∈ es.toList, e.born < c) (h5 : (es.toList.map (·.born)).Nodup)
    {k : κ} {i : Nat} (hi : (l.map Prod.fst).findIdx? (· = k) = some i) : MapI toK toV (es.eraseIdxIfInBounds i) c (delF f k) := by
  have ht : (es.eraseIdxIfInBounds i).toList = es.toList.eraseIdx i := by simp
  refine ⟨l.eraseIdx i, ?_, ?_, ?_, ?_, ?_⟩
  · rw [ht, eraseIdx_map', eraseIdx_map', h1]
  · rw [eraseIdx_map']; exact h2.sublist (List.eraseIdx_sublist _ _)
  · intro k'
    rw [lookup_erase hi h2, h3]; rfl
  · intro e he
    rw [ht] at he
    exact h4 e (List.mem_of_mem_eraseIdx he)
  · rw [ht, eraseIdx_map']; exact h5.sublist (List.eraseIdx_sublist _ _)

/-- The map's entries, as they are found by search. -/
class MiC (toK : κ → Value) (toV : ν → Value) (es : Array MapEntry) (clock : Nat) (f : outParam (κ → Option ν)) : Prop where out : MapI toK toV es clock f
instance miN : MiC toK toV #[] 0 (fun _ => none) := ⟨MapI.nil⟩
/-- The entry with a stamp is k's. -/
class StC (toK : κ → Value) (es : Array MapEntry) (st : Int) (k : outParam κ) : Prop where out : ∃ (i : Nat) (e : MapEntry), es.toList[i]? = some e ∧ (e.born : Int) = st ∧ e.key = toK k

section
variable {P : Program} {n : Nat} {E : Env} {h : LH} {ty : TypeId}
/-- What a look into a map yields. -/
def lookV (toV : ν → Value) (z : ν) (co : Bool) (o : Option ν) : Value := if co then .tuple (List.toArray [toV (o.getD z), .bool o.isSome]) else toV (o.getD z)

theorem Pop.lookup {t kt et : TypeId} {x ix : Operand} {r : Nat} {k : κ} {f : κ → Option ν} {es : Array MapEntry} {c : Nat} {z : ν} {co : Bool} [KeyC P kt toK] (hu : P.underlying t = some (.map kt et)) (hz : zrB P et = some (toV z)) (hx : Ev n E x (.map (some r))) (hi : Ev n E ix (toK k))
    (hg : HG h r (.map es c)) (hm : MapI toK toV es c f) : Pop P n E h (.lookup t x ix co) ty (lookV toV z co (f k)) := by
  intro dst pos after guard h' hxt
  simp only [Ev] at hx hi
  obtain ⟨l, h1, h2, h3, h4, h5⟩ := hm
  simp only [execOp, hx, hi]
  refine wps_v (v := lookV toV z co (f k)) ?_ ⟨rfl, rfl⟩
  unfold Instr.lookup
  refine wps_bind' (wps_underlying hu ?_)
  dsimp only
  refine wps_bind' (s := getObj r) ⟨_, hg.ext hxt, rfl, ?_⟩
  refine wps_bind' (wps_pure ?_)
  dsimp only
  refine wps_bind' (KeyC.check _ (by omega) _ k _ _ ?_)
  refine wps_bind' (KeyC.find k es.toList (l.map Prod.fst) _ _ (MapI.keys h1) (fun i e hi he => ?_) (fun hn => ?_))
  · obtain ⟨v, hv, hlk⟩ := (lookup_idx (l := l) (k := k)).1 i hi
    have := entry_at h1 he hv
    dsimp only
    refine wps_bind' (wps_pure ?_)
    dsimp only
    rw [this.2]
    refine wps_pure ⟨rfl, ?_⟩
    rw [← h3, hlk]
    cases co <;> rfl
  · have hlk := (lookup_idx (l := l) (k := k)).2 hn
    dsimp only
    refine wps_bind' (wps_zeroValue hz ?_)
    refine wps_bind' (wps_pure ?_)
    dsimp only
    refine wps_pure ⟨rfl, ?_⟩
    rw [← h3, hlk]
    cases co <;> rfl

theorem Pop.lenMap {t kt et : TypeId} {x : Operand} {r : Nat} {es : Array MapEntry} {c : Nat} (hu : P.underlying t = some (.map kt et)) (hx : Ev n E x (.map (some r))) (hg : HG h r (.map es c)) : Pop P n E h (.call { callee := .builtin .len, args := #[x], argTypes := #[t] }) ty (.int .i64 es.size) := by
  intro dst pos after guard h' hxt
  simp only [Ev] at hx
  simp only [execOp, resolve, List.map_toArray, List.map_cons, List.map_nil, hx]
  refine wps_bind' (wps_pure ?_)
  dsimp only [invoke, builtin]
  refine wps_v (v := .int .i64 es.size) ?_ ⟨rfl, rfl⟩
  unfold Builtin.len_
  refine wps_bind' (wps_underlying hu ?_)
  dsimp only
  refine wps_bind' (s := getObj r) ⟨_, hg.ext hxt, rfl, wps_pure ?_⟩
  exact wps_pure ⟨rfl, rfl⟩
end

theorem MapI.size0 {es : Array MapEntry} {c : Nat} {f : κ → Option ν} (m : MapI toK toV es c f) : es.size = 0 ↔ ∀ k, f k = none := by
  obtain ⟨l, h1, h2, h3, h4, h5⟩ := m
  have hle := entries_len h1
  constructor
  · intro h k
    have : l = [] := List.eq_nil_of_length_eq_zero (by rw [← hle]; simpa using h)
    rw [← h3, this]; rfl
  · intro h
    cases l with
    | nil => simpa using hle
    | cons x l =>
      have := h3 x.1
      rw [h x.1] at this
      simp at this

section
variable {P : Program} {main : Bool} {S : LH → Goroutine → Prop} {b : Base} {E : Env} {ds : List Deferred} {cs : List Frame} {h : LH} {K : Env → List Deferred → LH → Prop} {n : Nat}
variable {dst : Option Tmp} {ty : TypeId} {pos : String} {after : Array Edge} {l os : List Oper} {Fin : Env → List Deferred → LH → Prop}

theorem W.makeMap {t : TypeId} (hk : ∀ p, FreshAt h p → WL P S b cs l.toArray Fin os (putE E dst (.map (some p))) ds (h.upd p (.map #[] 0))) : WL P S b cs l.toArray Fin (⟨dst, .makeMap t none, ty, pos, after, none⟩ :: os) E ds h := by
  refine OpS.of rfl ?_
  simp only [execOp]
  refine wps_bind' ?_
  unfold Instr.makeMap
  refine wps_bind' (s := newObj _) (fun p hp => ?_)
  exact wps_pure (wps_pure (hk p ⟨hp⟩))

theorem wps_keyStays {k : Value} {K : Out Value → LH → Prop} (hb : Instr.sameBits 10000 k k = true) (x : K (.ok k) h) : wps P (Instr.keyThatStays k k) h K := by
  unfold Instr.keyThatStays
  rw [if_pos hb]
  exact wps_pure x

theorem wps_mapUpdate {t kt et : TypeId} {r : Nat} {k : κ} {v : ν} {f : κ → Option ν} {es : Array MapEntry} {c : Nat} {KK : Out Unit → LH → Prop} [hkc : KeyC P kt toK] (hu : P.underlying t = some (.map kt et)) (ho : Own h r) (hg : HG h r (.map es c)) (hm : MapI toK toV es c f)
    (hk : ∀ es' c', MapI toK toV es' c' (updF f k v) → KK (.ok ()) (h.upd r (.map es' c'))) : wps P (Instr.mapUpdate t (.map (some r)) (toK k) (toV v)) h KK := by
  obtain ⟨l, h1, h2, h3, h4, h5⟩ := id hm
  unfold Instr.mapUpdate
  refine wps_bind' (wps_underlying hu ?_)
  dsimp only
  refine wps_bind' (s := getObj r) ⟨_, hg, rfl, wps_pure ?_⟩
  dsimp only
  refine wps_bind' (KeyC.check _ (by omega) _ k _ _ ?_)
  refine wps_bind' (KeyC.find k es.toList (l.map Prod.fst) _ _ (MapI.keys h1) (fun i e hi he => ?_) (fun hn => ?_))
  · obtain ⟨u, hv, hlk⟩ := (lookup_idx (l := l) (k := k)).1 i hi
    have hkv := entry_at h1 he hv
    dsimp only
    have he' : es[i]? = some e := by simpa using he
    have e0 : ((es[i]?).map (·.key)).getD (toK k) = toK k := by rw [he']; exact hkv.1
    rw [e0]
    refine wps_bind' (wps_keyStays (hkc.bits _ (by omega) k) ?_)
    exact ⟨ho, _, hg, rfl, rfl, hk _ _ (MapI.modify h1 h2 h3 h4 h5 hi v (fun e _ => rfl))⟩
  · have hlk := (lookup_idx (l := l) (k := k)).2 hn
    exact ⟨ho, _, hg, rfl, rfl, hk _ _ (hm.push v (by rw [← h3]; exact hlk))⟩

theorem W.mapUpdate {t kt et : TypeId} {x y z : Operand} {r : Nat} {k : κ} {v : ν} {f : κ → Option ν} {es : Array MapEntry} {c : Nat} [KeyC P kt toK] (toK' : κ → Value) (toV' : ν → Value) (e1 : toK' = toK) (e2 : toV' = toV) (hu : P.underlying t = some (.map kt et)) (hx : Ev b.n E x (.map (some r))) (hy : Ev b.n E y (toK k)) (hz : Ev b.n E z (toV v))
    (ho : Own h r) (hg : HG h r (.map es c)) (hm : MapI toK toV es c f) (hk : ∀ es' c', MapI toK' toV' es' c' (updF f k v) → WL P S b cs l.toArray Fin os (putE E dst undef) ds (h.upd r (.map es' c'))) :
    WL P S b cs l.toArray Fin (⟨dst, .mapUpdate t x y z, ty, pos, after, none⟩ :: os) E ds h := by
  subst e1 e2
  refine OpS.of rfl ?_
  simp only [Ev] at hx hy hz
  simp only [execOp, hx, hy, hz]
  refine wps_bind' (wps_mapUpdate hu ho hg hm fun es' c' m => ?_)
  exact wps_pure (hk es' c' m)
theorem W.insert {t kt et : TypeId} {x y z : Operand} {r : Nat} {k : κ} {v : ν} {f : κ → Option ν} {es : Array MapEntry} {c : Nat} [KeyC P kt toK] (hu : P.underlying t = some (.map kt et)) (hx : Ev b.n E x (.map (some r))) (hy : Ev b.n E y (toK k)) (hz : Ev b.n E z (toV v))
    (ho : Own h r) (hg : HG h r (.map es c)) (hm : MapI toK toV es c f) (hk : ∀ es' c', MapI toK toV es' c' (updF f k v) → WL P S b cs l.toArray Fin os (putE E dst undef) ds (h.upd r (.map es' c'))) :
    WL P S b cs l.toArray Fin (⟨dst, .insert t x y z, ty, pos, after, none⟩ :: os) E ds h := by
  refine OpS.of rfl ?_
  simp only [Ev] at hx hy hz
  simp only [execOp, hx, hy, hz]
  refine wps_bind' (wps_mapUpdate hu ho hg hm fun es' c' m => ?_)
  exact wps_pure (hk es' c' m)

/-- m[k] op= .. : the entry's place. -/
theorem W.mapEntry {t kt et : TypeId} {x y : Operand} {r : Nat} {k : κ} {z : ν} {f : κ → Option ν} {es : Array MapEntry} {c : Nat} [hkc : KeyC P kt toK] (hu : P.underlying t = some (.map kt et)) (hz : zrB P et = some (toV z)) (hx : Ev b.n E x (.map (some r))) (hy : Ev b.n E y (toK k))
    (ho : Own h r) (hg : HG h r (.map es c)) (hm : MapI toK toV es c f)
    (hk : ∀ es' c' (st : Int), MapI toK toV es' c' (updF f k ((f k).getD z)) → StC toK es' st k → WL P S b cs l.toArray Fin os (putE E dst (.tuple (List.toArray [toV ((f k).getD z), .int .i64 st]))) ds (h.upd r (.map es' c'))) :
    WL P S b cs l.toArray Fin (⟨dst, .mapEntry t x y, ty, pos, after, none⟩ :: os) E ds h := by
  obtain ⟨li, h1, h2, h3, h4, h5⟩ := id hm
  refine OpS.of rfl ?_
  simp only [Ev] at hx hy
  simp only [execOp, hx, hy]
  refine wps_bind' ?_
  unfold Instr.mapEntry
  refine wps_bind' (wps_underlying hu ?_)
  dsimp only
  refine wps_bind' (s := getObj r) ⟨_, hg, rfl, wps_pure ?_⟩
  dsimp only
  refine wps_bind' (KeyC.check _ (by omega) _ k _ _ ?_)
  refine wps_bind' (KeyC.find k es.toList (li.map Prod.fst) _ _ (MapI.keys h1) (fun i e hi he => ?_) (fun hn => ?_))
  · obtain ⟨u, hv, hlk⟩ := (lookup_idx (l := li) (k := k)).1 i hi
    have hkv := entry_at h1 he hv
    dsimp only
    have he' : es[i]? = some e := by simpa using he
    have e0 : ((es[i]?).map (·.key)).getD (toK k) = toK k := by rw [he']; exact hkv.1
    rw [e0]
    refine wps_bind' (wps_keyStays (hkc.bits _ (by omega) k) ?_)
    refine wps_bind' (s := setObj _ _) ⟨ho, _, hg, rfl, rfl, ?_⟩
    refine wps_pure (wps_pure ?_)
    have hf : f k = some u := by rw [← h3]; exact hlk
    have := hk (es.modify i fun e => { e with key := toK k }) c e.born (by
      rw [hf]
      exact MapI.modify h1 h2 h3 h4 h5 hi u (fun e' he'' => by rw [he] at he''; cases he''; rw [hkv.2])) ⟨i, { e with key := toK k }, by
        rw [modify_toList, List.getElem?_modify]; simp [he], rfl, rfl⟩
    rw [he', hkv.2]
    rw [hf] at this
    exact this
  · have hlk := (lookup_idx (l := li) (k := k)).2 hn
    have hf : f k = none := by rw [← h3]; exact hlk
    refine wps_bind' (wps_zeroValue hz ?_)
    refine wps_bind' (s := setObj _ _) ⟨ho, _, hg, rfl, rfl, ?_⟩
    refine wps_pure (wps_pure ?_)
    have := hk (es.push { key := toK k, val := toV z, born := c }) (c + 1) c (by rw [hf]; exact hm.push z hf) ⟨es.size, _, by simp; rfl, rfl, rfl⟩
    rw [hf] at this
    exact this

theorem W.entryStore {t : TypeId} {x y z : Operand} {r : Nat} {k : κ} {v : ν} {f : κ → Option ν} {es : Array MapEntry} {c : Nat} {st : Int} {kk : IntKind} (hinj : ∀ a b, toK a = toK b → a = b) (hx : Ev b.n E x (.map (some r))) (hy : Ev b.n E y (.int kk st)) (hz : Ev b.n E z (toV v))
    (ho : Own h r) (hg : HG h r (.map es c)) (hm : MapI toK toV es c f) (hs : StC toK es st k) (hk : ∀ es' c', MapI toK toV es' c' (updF f k v) → WL P S b cs l.toArray Fin os (putE E dst undef) ds (h.upd r (.map es' c'))) :
    WL P S b cs l.toArray Fin (⟨dst, .entryStore t x y z, ty, pos, after, none⟩ :: os) E ds h := by
  obtain ⟨li, h1, h2, h3, h4, h5⟩ := id hm
  obtain ⟨j, e, he, hb, hke⟩ := hs.out
  refine OpS.of rfl ?_
  simp only [Ev] at hx hy hz
  simp only [execOp, hx, hy, hz]
  refine wps_bind' ?_
  unfold Instr.entryStore
  dsimp only
  refine wps_bind' (s := getObj r) ⟨_, hg, rfl, wps_pure ?_⟩
  dsimp only
  refine wps_bind' (s := asInt _) (wps_pure ?_)
  have hjl : j < es.toList.length := (List.getElem?_eq_some_iff.1 he).1
  have hej : es.toList[j] = e := (List.getElem?_eq_some_iff.1 he).2
  have hfi : es.findIdx? (fun e => (e.born : Int) == st) = some j := by
    have e9 : es.findIdx? (fun e => (e.born : Int) == st) = es.toList.findIdx? (fun e => (e.born : Int) == st) := by rw [← List.findIdx?_toArray, Array.toArray_toList]
    rw [e9, List.findIdx?_eq_some_iff_getElem]
    refine ⟨hjl, by simpa [hej] using hb, fun i hi => ?_⟩
    intro hc
    simp only [beq_iff_eq] at hc
    have hil : i < es.toList.length := by omega
    have : (es.toList.map (·.born))[i]'(by simpa using hil) = (es.toList.map (·.born))[j]'(by simpa using hjl) := by
      simp only [List.getElem_map, hej]
      omega
    have := (List.getElem_inj h5).1 this
    omega
  dsimp only
  rw [hfi]
  have hll := entries_len h1
  obtain ⟨x', hx'⟩ : ∃ x', li[j]? = some x' := ⟨li[j], by simp [← hll, hjl]⟩
  have hkv := entry_at h1 he hx'
  have hxk : x'.1 = k := hinj _ _ (hkv.1.symm.trans hke)
  have hfj : (li.map Prod.fst).findIdx? (· = k) = some j := by
    rw [List.findIdx?_eq_some_iff_getElem]
    have hjl' : j < li.length := by omega
    have hxj : li[j] = x' := (List.getElem?_eq_some_iff.1 hx').2
    refine ⟨by simpa using hjl', by simp [hxj, hxk], fun i hi => ?_⟩
    intro hc
    simp only [decide_eq_true_eq] at hc
    have : (li.map Prod.fst)[i]'(by simp; omega) = (li.map Prod.fst)[j]'(by simpa using hjl') := by
      rw [hc]; simp [hxj, hxk]
    have := (List.getElem_inj h2).1 this
    omega
  refine ⟨ho, _, hg, rfl, rfl, ?_⟩
  exact wps_pure (hk _ _ (MapI.modify h1 h2 h3 h4 h5 hfj v (fun e' he'' => by rw [he] at he''; cases he''; rw [← hke])))

theorem W.delete {t t2 kt et : TypeId} {x y : Operand} {r : Nat} {k : κ} {f : κ → Option ν} {es : Array MapEntry} {c : Nat} [hkc : KeyC P kt toK] (hu : P.underlying t = some (.map kt et)) (hx : Ev b.n E x (.map (some r))) (hy : Ev b.n E y (toK k))
    (ho : Own h r) (hg : HG h r (.map es c)) (hm : MapI toK toV es c f)
    (hk : ∀ es' c', MapI toK toV es' c' (delF f k) → WL P S b cs l.toArray Fin os (putE E dst (.tuple #[])) ds (h.upd r (.map es' c'))) :
    WL P S b cs l.toArray Fin (⟨dst, .call { callee := .builtin .delete, args := #[x, y], argTypes := #[t, t2] }, ty, pos, after, none⟩ :: os) E ds h := by
  obtain ⟨li, h1, h2, h3, h4, h5⟩ := id hm
  refine OpS.of rfl ?_
  simp only [Ev] at hx hy
  simp only [execOp, resolve, List.map_toArray, List.map_cons, List.map_nil, hx, hy]
  refine wps_bind' (wps_pure ?_)
  dsimp only [invoke, builtin]
  refine wps_bind' ?_
  unfold Builtin.delete_
  simp only [List.getElem?_toArray, List.getElem?_cons_zero, List.getElem?_cons_succ]
  refine wps_bind' (wps_underlying hu ?_)
  dsimp only
  refine wps_bind' ?_
  refine wps_bind' (s := getObj r) ⟨_, hg, rfl, wps_pure ?_⟩
  dsimp only
  refine wps_bind' (KeyC.check _ (by omega) _ k _ _ ?_)
  refine wps_bind' (KeyC.find k es.toList (li.map Prod.fst) _ _ (MapI.keys h1) (fun i e hi he => ?_) (fun hn => ?_))
  · refine ⟨ho, _, hg, rfl, rfl, ?_⟩
    exact wps_pure (wps_pure (hk _ _ (MapI.erase h1 h2 h3 h4 h5 hi)))
  · have hlk := (lookup_idx (l := li) (k := k)).2 hn
    have hf : f k = none := by rw [← h3]; exact hlk
    have e : delF f k = f := by
      funext k'; unfold delF; split
      · rename_i e; rw [e, hf]
      · rfl
    refine ⟨ho, _, hg, rfl, rfl, ?_⟩
    exact wps_pure (wps_pure (hk _ _ (by rw [e]; exact hm)))
end
end
end Go.SL
/-
  The calculus of local heaps, part thirteen: strings; conversions; slices that are made; loops and returns past the marks that ranges over functions leave; deferred calls.
-/
namespace Go.SL
open Go.Conc (G)

/-- A guard of which the test was left out itself. -/
instance (priority := low) grdU {l : List Oper} {n : Nat} {E : Env} {j d : Nat} {want : Bool} [hj : DstC l j d] [hd : GtC d n] [he : LookC E d undef] : GrdC l n E j want false :=
  ⟨fun dst op ty pos after => by
    have h1 := hj.out
    have h2 := hd.out
    have h3 := he.out
    simp only [Look] at h3
    have : (arr n E)[d]? = some undef := by simp [arr, h2, h3]
    have h1' : (l[j]?).bind (·.dst) = some d := by simpa using h1
    unfold Region.wanted yielded
    simp only [List.getElem?_toArray, h1', Option.bind_some, this]
    simp [undef]⟩

/-- A string of these bytes. -/
abbrev strV (l : List UInt8) : Value := .string ⟨l.toArray⟩
theorem size_mk (l : List UInt8) : (⟨l.toArray⟩ : ByteArray).size = l.length := by simp [ByteArray.size]
theorem str_inj {a b : List UInt8} (h : (⟨a.toArray⟩ : ByteArray) = ⟨b.toArray⟩) : a = b := by
  have := congrArg ByteArray.data h
  simpa using this

section
variable {P : Program} {n : Nat} {E : Env} {h : LH} {ty : TypeId}
theorem Pop.str {op : BinOp} {t t' ty : TypeId} {x y : Operand} {a c : ByteArray} {v : Value} (hx : Ev n E x (.string a)) (hy : Ev n E y (.string c))
    (hv : ∀ h' : LH, wps P (Op.stringOp op a c) h' (fun o h'' => h'' = h' ∧ o = .ok v)) : Pop P n E h (.binOp op t x y t') ty v := by
  intro dst pos after guard h' hxt
  simp only [Ev] at hx hy
  simp only [execOp, hx, hy]
  refine wps_v (v := v) ?_ ⟨rfl, rfl⟩
  have hg : ∀ K : Out Unit → LH → Prop, K (.ok ()) h' → wps P (eqGuard op t x y (.string a) (.string c)) h' K := by
    intro K hK
    unfold eqGuard
    cases op <;> exact hK
  refine wps_bind' (hg _ ?_)
  have e : binOp op t (.string a) (.string c) = Op.stringOp op a c := by cases op <;> simp [binOp, Op.stringOp]
  dsimp only
  rw [e]; exact hv h'
instance bStrEql {a c : List UInt8} : BinC .eql (.string ⟨a.toArray⟩) (.string ⟨c.toArray⟩) (.bool (decide (a = c))) := ⟨fun P n E h t t' ty x y hx hy => Pop.str hx hy fun h' => by
  unfold Op.stringOp
  simp only [ByteArray.toList_mk]
  refine wps_pure ⟨rfl, ?_⟩
  congr 2
  by_cases e : a = c <;> simp [e]⟩
/-- The sum of two lengths is an int. -/
class FitC (a b : ByteArray) : Prop where out : a.size + b.size ≤ 9223372036854775807
instance bStrAdd {a c : ByteArray} [hf : FitC a c] : BinC .add (.string a) (.string c) (.string (a ++ c)) := ⟨fun P n E h t t' ty x y hx hy => Pop.str hx hy fun h' => by
  unfold Op.stringOp
  have hno : ¬ ((a.size + c.size : Nat) : Int) > IntKind.i64.max := by
    have := hf.out
    simp [IntKind.max, IntKind.signed, IntKind.bits]; omega
  dsimp only
  rw [if_neg hno]
  exact wps_pure ⟨rfl, rfl⟩⟩
instance (priority := high) pLenStr {t : TypeId} {x : Operand} {l : List UInt8} [hu : UlC P t .string] [hx : EvC n E x (.string ⟨l.toArray⟩)] : PopC P n E h (.call { callee := .builtin .len, args := #[x], argTypes := #[t] }) ty (.int .i64 l.length) := ⟨by
  intro dst pos after guard h' hxt
  have hx' := hx.out
  simp only [Ev] at hx'
  simp only [execOp, resolve, List.map_toArray, List.map_cons, List.map_nil, hx']
  refine wps_bind' (wps_pure ?_)
  dsimp only [invoke, builtin]
  refine wps_v (v := .int .i64 l.length) ?_ ⟨rfl, rfl⟩
  unfold Builtin.len_
  refine wps_bind' (wps_underlying hu.out ?_)
  exact wps_pure ⟨rfl, by simp [goInt, size_mk]⟩⟩
class ByC (l : List UInt8) (i : Nat) (b : outParam UInt8) : Prop where out : l[i]? = some b
instance pIxStr {t : TypeId} {x ix : Operand} {l : List UInt8} {k : IntKind} {z : Int} {i : Nat} {u : UInt8} [hu : UlC P t .string] [hx : EvC n E x (.string ⟨l.toArray⟩)] [hi : EvC n E ix (.int k z)] [hz : NatC z i] [hb : ByC l i u] : PopC P n E h (.index t x ix) ty (.int .u8 u.toNat) := ⟨by
  intro dst pos after guard h' hxt
  have hx' := hx.out
  have hi' := hi.out
  simp only [Ev] at hx' hi'
  simp only [execOp, hx', hi']
  refine wps_v (v := .int .u8 u.toNat) ?_ ⟨rfl, rfl⟩
  unfold Instr.index
  refine wps_bind' (s := asIntOf _) (wps_pure ?_)
  dsimp only
  refine wps_bind' (wps_underlying hu.out ?_)
  have hzi := hz.out
  subst hzi
  have hlt := (List.getElem?_eq_some_iff.1 hb.out).1
  have hge := (List.getElem?_eq_some_iff.1 hb.out).2
  have e : (if (0 : Int) ≤ (i : Nat) then (⟨l.toArray⟩ : ByteArray)[((i : Nat) : Int).toNat]? else none) = some u := by
    rw [if_pos (by omega)]
    have : (⟨l.toArray⟩ : ByteArray)[i]? = some u := by
      rw [getElem?_pos _ _ (by rw [size_mk]; exact hlt)]
      congr 1
    simpa using this
  dsimp only
  rw [e]
  exact wps_pure ⟨rfl, rfl⟩⟩
instance pConvInt {s t : TypeId} {x : Operand} {k k' : IntKind} {d : TypeDesc} {z : Int} [hs : UlC P s d] [hu : UlC P t (.int k)] [hx : EvC n E x (.int k' z)] : PopC P n E h (.convert s t x) ty (.int k (k.wrap z)) := ⟨by
  intro dst pos after guard h' hxt
  have hx' := hx.out
  simp only [Ev] at hx'
  simp only [execOp, hx']
  refine wps_v (v := .int k (k.wrap z)) ?_ ⟨rfl, rfl⟩
  unfold convert
  refine wps_bind' (wps_underlying hs.out ?_)
  dsimp only
  refine wps_bind' (wps_underlying hu.out ?_)
  cases d <;> exact wps_pure ⟨rfl, rfl⟩⟩
instance pConvStr {s t : TypeId} {x : Operand} {k k' : IntKind} {z : Int} [hs : UlC P s (.int k)] [hu : UlC P t .string] [hx : EvC n E x (.int k' z)] : PopC P n E h (.convert s t x) ty (.string (Utf8.encode z)) := ⟨by
  intro dst pos after guard h' hxt
  have hx' := hx.out
  simp only [Ev] at hx'
  simp only [execOp, hx']
  refine wps_v (v := .string (Utf8.encode z)) ?_ ⟨rfl, rfl⟩
  unfold convert
  refine wps_bind' (wps_underlying hs.out ?_)
  dsimp only
  refine wps_bind' (wps_underlying hu.out ?_)
  exact wps_pure ⟨rfl, rfl⟩⟩
/-- An array of two. -/
instance pBuildA2 {t el : TypeId} {x y : Operand} {v w a c : Value} [hu : UlC P t (.array 2 el)] [hz : SzC P el 1] [hzr : ZrC P t [a, c]] [hx : EvC n E x v] [hy : EvC n E y w] [hv : SingleC v] [hw : SingleC w] : PopC P n E h (.build t (List.toArray [(0, x), (1, y)])) ty (.agg (List.toArray [v, w])) := ⟨by
  intro dst pos after guard h' hxt
  have hx' := hx.out
  have hy' := hy.out
  simp only [Ev] at hx' hy'
  simp only [execOp, List.map_toArray, List.map_cons, List.map_nil, hx', hy']
  refine wps_v (v := .agg (List.toArray [v, w])) ?_ ⟨rfl, rfl⟩
  have hzr' := hzr.out
  unfold zrL at hzr'
  cases hzv : zrB P t with
  | none => simp [hzv] at hzr'
  | some zv =>
  simp only [hzv, Option.map_some, Option.some.injEq] at hzr'
  unfold Instr.build
  refine wps_bind' (wps_zeroValue hzv ?_)
  refine wps_bind' (wps_underlying hu.out ?_)
  dsimp only
  refine wps_bind' (wps_sizeOf hz.out ?_)
  have h1 := cells_single hv.out
  have h2 := cells_single hw.out
  have hzc : zv.cells = #[a, c] := by apply Array.ext'; rw [hzr']
  have : Instr.fill (fun i => some (i * 1, 1)) zv.cells [(0, v), (1, w)] = some #[v, w] := by
    rw [hzc]; simp [Instr.fill, h1, h2]
  dsimp only
  rw [this]
  exact wps_pure ⟨rfl, rfl⟩⟩
instance pEqB {t t' : TypeId} {x y : Operand} {a c : Bool} [hu : UlC P t .bool] [hx : EvC n E x (.bool a)] [hy : EvC n E y (.bool c)] : PopC P n E h (.binOp .eql t x y t') ty (.bool (a == c)) := ⟨by
  intro dst pos after guard h' hxt
  have hx' := hx.out
  have hy' := hy.out
  simp only [Ev] at hx' hy'
  simp only [execOp, hx', hy']
  refine wps_v (v := .bool (a == c)) ?_ ⟨rfl, rfl⟩
  refine wps_bind' ?_
  unfold eqGuard
  refine wps_pure ?_
  unfold binOp
  refine wps_bind' ?_
  unfold Op.equal
  exact (eqBool (P := P) (m := 0) (t := t) (a := a) (b := c)).out 9999 _ _ (wps_pure ⟨rfl, rfl⟩)⟩
instance pNeqA {t t' ty : TypeId} {x y : Operand} {xs ys : Array Value} {r : Bool} [hx : EvC n E x (.agg xs)] [hy : EvC n E y (.agg ys)] [hg : EgC P t] [p : EqC P 4 t (.agg xs) (.agg ys) r] : PopC P n E h (.binOp .neq t x y t') ty (.bool (!r)) := ⟨by
  intro dst pos after guard h' hxt
  have hx' := hx.out
  have hy' := hy.out
  simp only [Ev] at hx' hy'
  simp only [execOp, hx', hy']
  refine wps_v (v := .bool (!r)) ?_ ⟨rfl, rfl⟩
  refine wps_bind' ?_
  unfold eqGuard
  simp only [Bool.not_true, Bool.false_eq_true, if_false]
  refine wps_bind' (wps_program ?_)
  dsimp only
  refine wps_bind' (wps_program ?_)
  dsimp only
  rw [hg.out]
  simp only [Bool.not_false, if_true]
  refine wps_pure ?_
  unfold binOp
  refine wps_bind' ?_
  unfold Op.equal
  exact p.out 9996 _ _ (wps_pure ⟨rfl, rfl⟩)⟩
end

section
variable {P : Program} {main : Bool} {S : LH → Goroutine → Prop} {b : Base} {E : Env} {ds : List Deferred} {k : List Item} {cs : List Frame} {h : LH} {n : Nat}
variable {dst : Option Tmp} {ty : TypeId} {pos : String} {after : Array Edge} {l os : List Oper} {Fin : Env → List Deferred → LH → Prop}

theorem W.rangeStr {t : TypeId} {x : Operand} {s : ByteArray} [hu : UlC P t .string] [hx : EvC b.n E x (.string s)] (hk : ∀ p, FreshAt h p → WL P S b cs l.toArray Fin os (putE E dst (.pointer (some ⟨p, 0, none⟩))) ds (h.upd p (.stringIter s 0))) :
    WL P S b cs l.toArray Fin (⟨dst, .range t x, ty, pos, after, none⟩ :: os) E ds h := by
  refine OpS.of rfl ?_
  have hx' := hx.out
  simp only [Ev] at hx'
  simp only [execOp, hx']
  refine wps_bind' ?_
  unfold Instr.range
  refine wps_bind' (wps_underlying hu.out ?_)
  dsimp only
  refine wps_bind' (wps_pure ?_)
  refine wps_bind' (s := newObj _) (fun p hp => ?_)
  exact wps_pure (wps_pure (hk p ⟨hp⟩))

theorem decode_ascii {l : List UInt8} {i : Nat} {u : UInt8} (hb : l[i]? = some u) (hu : u.toNat < 128) : Utf8.decode ⟨l.toArray⟩ i = (u.toNat, 1) := by
  have hlt := (List.getElem?_eq_some_iff.1 hb).1
  have hge := (List.getElem?_eq_some_iff.1 hb).2
  have e : (⟨l.toArray⟩ : ByteArray).get! i = u := by
    show (l.toArray)[i]! = u
    simp [hlt, hge]
  unfold Utf8.decode
  simp only [Nat.add_zero, e]
  rw [if_pos hu]

theorem W.nextStr {x : Operand} {p i : Nat} {s : List UInt8} {u : UInt8} [hx : EvC b.n E x (.pointer (some ⟨p, 0, none⟩))] [hg : HGC h p (.stringIter ⟨s.toArray⟩ i)] [ho : OwnC h p] [hb : ByC s i u] (hu : u.toNat < 128)
    (hk : WL P S b cs l.toArray Fin os (putE E dst (.tuple (List.toArray [.bool true, .int .i64 i, .int .i32 u.toNat]))) ds (h.upd p (.stringIter ⟨s.toArray⟩ (i + 1)))) :
    WL P S b cs l.toArray Fin (⟨dst, .next x true, ty, pos, after, none⟩ :: os) E ds h := by
  refine OpS.of rfl ?_
  have hx' := hx.out
  simp only [Ev] at hx'
  simp only [execOp, hx']
  refine wps_bind' ?_
  unfold Instr.next
  dsimp only
  refine wps_bind' (s := getObj p) ⟨_, hg.out, rfl, ?_⟩
  have hlt := (List.getElem?_eq_some_iff.1 hb.out).1
  show wps P (if i < (⟨s.toArray⟩ : ByteArray).size then _ else _) h _
  rw [if_pos (by rw [size_mk]; exact hlt)]
  rw [decode_ascii hb.out hu]
  dsimp only
  refine wps_bind' (s := setObj _ _) ⟨ho.out, _, hg.out, rfl, rfl, ?_⟩
  exact wps_pure (wps_pure hk)
theorem W.nextStrEnd {x : Operand} {p i : Nat} {s : List UInt8} [hx : EvC b.n E x (.pointer (some ⟨p, 0, none⟩))] [hg : HGC h p (.stringIter ⟨s.toArray⟩ i)] (hi : s.length ≤ i)
    (hk : WL P S b cs l.toArray Fin os (putE E dst (.tuple (List.toArray [.bool false]))) ds h) :
    WL P S b cs l.toArray Fin (⟨dst, .next x true, ty, pos, after, none⟩ :: os) E ds h := by
  refine OpS.of rfl ?_
  have hx' := hx.out
  simp only [Ev] at hx'
  simp only [execOp, hx']
  refine wps_bind' ?_
  unfold Instr.next
  dsimp only
  refine wps_bind' (s := getObj p) ⟨_, hg.out, rfl, ?_⟩
  show wps P (if i < (⟨s.toArray⟩ : ByteArray).size then _ else _) h _
  rw [if_neg (by rw [size_mk]; omega)]
  exact wps_pure (wps_pure hk)

/-! ### loops and returns with marks among the deferred calls -/
theorem loop_ind2 {α : Type} {body : Code} (μ : α → Nat) (Inv : α → Env → List Deferred → LH → Prop)
    (step : ∀ a E ds h, Inv a E ds h → (∀ a' E' ds' h', μ a' < μ a → Inv a' E' ds' h' → S h' (G (b.fr E' ds' (.code body :: .inLoop body :: k)) cs)) → S h (G (b.fr E ds (.code body :: .inLoop body :: k)) cs)) :
    ∀ a E ds h, Inv a E ds h → S h (G (b.fr E ds (.code body :: .inLoop body :: k)) cs) := by
  have key : ∀ (m : Nat) a E ds h, μ a = m → Inv a E ds h → S h (G (b.fr E ds (.code body :: .inLoop body :: k)) cs) := by
    intro m
    induction m using Nat.strongRecOn with
    | _ m ih => exact fun a E ds h hm hi => step a E ds h hi fun a' E' ds' h' hlt hi' => ih (μ a') (hm ▸ hlt) a' E' ds' h' rfl hi'
  exact fun a E ds h hi => key _ a E ds h rfl hi

def markOf (r : Nat) : Deferred := { target := .collected r, args := #[] }
/-- The deferred calls are marks of ranges over functions, and then 'rest'. -/
def Marks (h0 h : LH) (rest ds : List Deferred) : Prop := ∃ rs : List Nat, ds = rs.map markOf ++ rest ∧ rs.Nodup ∧ ∀ r ∈ rs, HG h r (.deferred (some [])) ∧ Own h r ∧ h0.get r = none
theorem Marks.nil {h0 h : LH} {rest : List Deferred} : Marks h0 h rest rest := ⟨[], by simp⟩
theorem Marks.mono {h0 h h' : LH} {rest ds : List Deferred} (m : Marks h0 h rest ds) (hg : ∀ r, HG h r (.deferred (some [])) → HG h' r (.deferred (some []))) (ho : ∀ r, Own h r → Own h' r) : Marks h0 h' rest ds := by
  obtain ⟨rs, h1, h2, h3⟩ := m
  exact ⟨rs, h1, h2, fun r hr => ⟨hg r (h3 r hr).1, ho r (h3 r hr).2.1, (h3 r hr).2.2⟩⟩
theorem Marks.ext {h0 h h' : LH} {rest ds : List Deferred} (m : Marks h0 h rest ds) (x : Ext h h') : Marks h0 h' rest ds := m.mono (fun r hr => hr.ext x) (fun r hr => hr.ext x)
theorem Marks.upd {h0 h : LH} {rest ds : List Deferred} (m : Marks h0 h rest ds) {p : Nat} {o : Obj} (hn : ¬ HG h p (.deferred (some []))) : Marks h0 (h.upd p o) rest ds :=
  m.mono (fun r hr => hr.ne (fun e => hn (e ▸ hr))) (fun r hr => hr.miss)
theorem Marks.push {h0 h1 h2 : LH} {rest ds : List Deferred} (m : Marks h0 h1 rest ds) (x : Ext h1 h2) {r : Nat} (fr : h1.get r = none) (hg : HG h2 r (.deferred (some []))) (ho : Own h2 r) (h00 : h0.get r = none) : Marks h0 h2 rest (markOf r :: ds) := by
  obtain ⟨rs, e1, e2, e3⟩ := m
  refine ⟨r :: rs, by rw [e1]; rfl, List.nodup_cons.2 ⟨fun hr => ?_, e2⟩, fun r' hr => ?_⟩
  · have := (e3 r hr).1; simp only [HG] at this; rw [fr] at this; cases this
  · rcases List.mem_cons.1 hr with rfl | hr
    · exact ⟨hg, ho, h00⟩
    · exact ⟨(e3 r' hr).1.ext x, (e3 r' hr).2.1.ext x, (e3 r' hr).2.2⟩

class NdC (o : Obj) : Prop where out : o ≠ .deferred (some [])
instance ndCells {c : Array Value} {e : TypeId} {f : Nat × Nat} : NdC (.cells c e f) := ⟨by simp⟩
instance ndMap {es : Array MapEntry} {c : Nat} : NdC (.map es c) := ⟨by simp⟩
instance ndLoop {l : Loop} : NdC (.loop l) := ⟨by simp⟩
instance ndStr {s : ByteArray} {p : Nat} : NdC (.stringIter s p) := ⟨by simp⟩
instance ndChan {a : Nat} {b : Array Value} {c : Bool} {d e : Nat} {f : Bool} : NdC (.chan a b c d e f) := ⟨by simp⟩
class MkC (h0 : outParam LH) (h : LH) (rest : outParam (List Deferred)) (ds : List Deferred) : Prop where out : Marks h0 h rest ds
instance mkU {h0 h : LH} {rest ds : List Deferred} {p : Nat} {o o' : Obj} [hg : HGC h p o'] [hd : NdC o'] [m : MkC h0 h rest ds] : MkC h0 (h.upd p o) rest ds := ⟨m.out.upd fun e => hd.out (Option.some.inj (hg.out.symm.trans e))⟩
instance (priority := high) mkF {h0 h : LH} {rest ds : List Deferred} {p : Nat} {o : Obj} [hf : FreshAt h p] [m : MkC h0 h rest ds] : MkC h0 (h.upd p o) rest ds := ⟨m.out.upd fun e => by rw [HG, hf.out] at e; cases e⟩
instance mkX {h0 h h' : LH} {rest ds : List Deferred} [x : ExtC h h'] [m : MkC h0 h rest ds] : MkC h0 h' rest ds := ⟨m.out.ext x.out⟩

/-- h' is h, the marks taken. -/
structure Taken (h0 h h' : LH) : Prop where
  get : ∀ b o, h.get b = some o → o ≠ .deferred (some []) → h'.get b = some o
  own : ∀ b, h.own b → h'.own b
  gh : h'.gh = h.gh
  ext : Ext h0 h → Ext h0 h'
  old : ∀ b o, h.get b = some o → h0.get b ≠ none → h'.get b = some o
theorem Taken.refl {h0 h : LH} : Taken h0 h h := ⟨fun _ _ x _ => x, fun _ x => x, rfl, id, fun _ _ x _ => x⟩

theorem takes (hS : Regime P main S) {h0 : LH} {rest : List Deferred} : ∀ (rs : List Nat) (h : LH), rs.Nodup → (∀ r ∈ rs, HG h r (.deferred (some [])) ∧ Own h r ∧ h0.get r = none) → (∀ h', Taken h0 h h' → S h' (G (b.rf E rest k) cs)) → S h (G (b.rf E (rs.map markOf ++ rest) k) cs)
  | [], h, _, _, hk => hk h .refl
  | r :: rs, h, hn, hr, hk => by
    have h1 := hr r List.mem_cons_self
    have hn' := List.nodup_cons.1 hn
    refine hS.backTaken (calls := []) h1.2.1 h1.1 ?_
    refine takes (h0 := h0) hS rs _ hn'.2 (fun r' hr' => ?_) (fun h' t => hk h' ?_)
    · have h2 := hr r' (List.mem_cons_of_mem _ hr')
      have hne : r' ≠ r := fun e => hn'.1 (e ▸ hr')
      exact ⟨h2.1.ne hne, h2.2.1.miss, h2.2.2⟩
    · refine ⟨fun x o hx ho => t.get x o ?_ ho, fun x hx => t.own x (.inl hx), t.gh, fun x => t.ext (Ext.upd' x h1.2.2), fun x o hx hn => t.old x o (by
        have hne : x ≠ r := fun e => hn (e ▸ h1.2.2)
        simpa [LH.upd, hne] using hx) hn⟩
      have hne : x ≠ r := fun e => by
        subst e
        have := h1.1; simp only [HG] at this; rw [this] at hx; cases hx; exact ho rfl
      simpa [LH.upd, hne] using hx

/-- A return past marks. -/
theorem R.retM (hS : Regime P main S) {f : FuncId} {h0 : LH} {rs : List ResultVar} {vs : List Value} {c : Frame} [hf : FunC P f rs] [m : MkC h0 h [] ds] (p : ∀ h', ResC P n E h' rs vs)
    (hk : ∀ h', Taken h0 h h' → S h' (G (c.finish (resOf vs)) cs)) : S h (G ((⟨f, n, .normal, none⟩ : Base).fr E ds (.code .ret :: k)) (c :: cs)) := by
  obtain ⟨fn', h1, h2⟩ := hf.out
  obtain ⟨l, e1, e2, e3⟩ := m.out
  refine hS.ret rfl ?_
  rw [e1]
  refine takes hS l h e2 e3 fun h' t => ?_
  exact hS.back (b := ⟨f, n, .normal, none⟩) h1 rfl (wps_results h2 (p h').out (hk h' t))
theorem Regime.finM (hS : Regime P main S) {h0 : LH} {rest : List Deferred} (hb : b.round = none) [m : MkC h0 h rest ds] (hk : ∀ h', Taken h0 h h' → S h' (G (b.rf E rest []) cs)) : S h (G (b.fr E ds []) cs) := by
  obtain ⟨l, e1, e2, e3⟩ := m.out
  refine hS.fin hb ?_
  rw [e1]
  exact takes hS l h e2 e3 hk

/-! ### slices that are made -/
theorem rep_flat (z : List Value) (m : Nat) : (List.range (m * z.length)).map (fun i => z.toArray[i % z.length]!) = (List.replicate m z).flatten := by
  induction m with
  | zero => simp
  | succ m ih =>
    rw [List.replicate_succ, List.flatten_cons, ← ih, Nat.add_mul, Nat.one_mul, Nat.add_comm, List.range_add, List.map_append, List.map_map]
    congr 1
    · apply List.ext_getElem
      · simp
      · intro i h1 h2
        have hi : i < z.length := by simpa using h1
        simp [Nat.mod_eq_of_lt hi, hi]
    · apply List.map_congr_left
      intro i _
      simp
theorem W.makeSlice {t el : TypeId} {x : Operand} {kk : IntKind} {m sz by_ : Nat} {z : List Value} [hx : EvC b.n E x (.int kk (m : Nat))] [hu : UlC P t (.slice el)] [hz : SzC P el sz] [hzr : ZrC P el z] (hzl : z.length = sz) (hb : byB P el = some by_) (hlim : m * by_ ≤ 281474976710656) (hm : m ≤ 9223372036854775807)
    (hk : ∀ p, FreshAt h p → SlW (h.upd p (.cells (List.replicate m z).flatten.toArray el (0, 0))) sz (.slice (some ⟨p, 0, none⟩) m m) (List.replicate m z) → WL P S b cs l.toArray Fin os (putE E dst (.slice (some ⟨p, 0, none⟩) m m)) ds (h.upd p (.cells (List.replicate m z).flatten.toArray el (0, 0)))) :
    WL P S b cs l.toArray Fin (⟨dst, .makeSlice t x x, ty, pos, after, none⟩ :: os) E ds h := by
  refine OpS.of rfl ?_
  have hx' := hx.out
  simp only [Ev] at hx'
  simp only [execOp, hx']
  refine wps_bind' ?_
  unfold Instr.makeSlice
  refine wps_bind' (wps_underlying hu.out ?_)
  dsimp only
  refine wps_bind' (s := asInt _) (wps_pure ?_)
  refine wps_bind' (s := asInt _) (wps_pure ?_)
  unfold byB at hb
  cases hi : P.info? el with
  | none => simp [hi] at hb
  | some inf =>
  simp only [hi, Option.map_some, Option.some.injEq] at hb
  subst hb
  refine wps_bind' (wps_typeInfo hi ?_)
  have hw : IntKind.i64.wrap ((m : Nat) : Int) = m := wrap_in (by omega) (by omega)
  have hl0 : (decide (((m : Nat) : Int) < 0) || decide (((inf.bytes : Nat) : Int) * (m : Nat) > 2 ^ 48)) = false := by
    have : ((inf.bytes : Nat) : Int) * (m : Nat) ≤ 281474976710656 := by
      have : inf.bytes * m ≤ 281474976710656 := by rw [Nat.mul_comm]; exact hlim
      rw [← Int.natCast_mul]
      exact Int.ofNat_le.2 this
    simp only [Bool.or_eq_false_iff, decide_eq_false_iff_not]
    exact ⟨by omega, Int.not_lt.2 (Int.le_trans this (by decide))⟩
  have hno : ¬ ((decide (((m : Nat) : Int) < 0) || decide (((inf.bytes : Nat) : Int) * (m : Nat) > 2 ^ 48)) || decide (((m : Nat) : Int) < 0) || decide (((m : Nat) : Int) > (m : Nat))) = true := by
    rw [hl0]; simp
  dsimp only
  rw [hw]
  rw [if_neg hno]
  refine wps_bind' (wps_askRoom ?_)
  refine wps_bind' (wps_sizeOf hz.out ?_)
  have fin : ∀ zero : Array Value, (Array.range (m * sz)).map (zero[· % zero.size]!) = (List.replicate m z).flatten.toArray → wps P (do
        let a ← newRow el (Array.map (fun x => zero[x % zero.size]!) (Array.range (((m : Nat) : Int).toNat * sz)))
        pure (Value.slice (some a) ((m : Nat) : Int).toNat ((m : Nat) : Int).toNat)) h fun o h' => match o with | .ok a => wps P (pure (Next.value a)) h' (NextO P S b cs E ds dst (WL P S b cs l.toArray Fin os)) | .panic v => NextO P S b cs E ds dst (WL P S b cs l.toArray Fin os) (.panic v) h' := by
    intro zero hzero
    simp only [Int.toNat_natCast]
    rw [hzero]
    refine wps_bind' (s := newRow _ _) (wps_bind' (fun p hp => ?_))
    refine wps_pure (wps_pure (wps_pure (hk p ⟨hp⟩ ?_)))
    have hlen : ∀ x ∈ List.replicate m z, x.length = sz := fun x hx => by rw [List.eq_of_mem_replicate hx, hzl]
    refine ⟨hlen, .inr ⟨p, 0, m, (List.replicate m z).flatten, el, by simp, by simp, Own.hit, HG.hit, ?_, ?_⟩⟩
    · rw [flat_len hlen]; simp
    · rw [List.drop_zero, ← flat_len hlen, List.take_length]
  simp only [Int.toNat_natCast]
  by_cases h0 : m * sz = 0
  · rw [if_pos h0]
    refine wps_bind' (wps_pure ?_)
    dsimp only
    have := fin #[] (by
      have hlen : ∀ x ∈ List.replicate m z, x.length = sz := fun x hx => by rw [List.eq_of_mem_replicate hx, hzl]
      have : (List.replicate m z).flatten = [] := List.eq_nil_of_length_eq_zero (by rw [flat_len hlen]; simpa using h0)
      rw [h0, this]; simp)
    simp only [Int.toNat_natCast] at this
    exact this
  · rw [if_neg h0]
    have hzr' := hzr.out
    unfold zrL at hzr'
    cases hzv : zrB P el with
    | none => simp [hzv] at hzr'
    | some zv =>
    simp only [hzv, Option.map_some, Option.some.injEq] at hzr'
    simp only [bind_assoc, pure_bind]
    refine wps_bind' (wps_zeroValue hzv ?_)
    dsimp only
    have hzs : zv.cells.size = sz := by rw [← hzl, ← hzr']; simp
    have := fin zv.cells (by
      rw [← hzl, ← hzr']
      apply Array.ext'
      have := rep_flat zv.cells.toList m
      simpa using this)
    simp only [Int.toNat_natCast] at this
    exact this
end
end Go.SL
/-
  The calculus of local heaps, part fourteen: maps, their side conditions found by search; the check of keys.
-/
namespace Go.SL
open Go.Conc (G)

/-- v is the value of k. -/
class KvC {κ : Type} (toK : κ → Value) (v : Value) (k : outParam κ) : Prop where out : toK k = v

/-! ### the check of keys -/
class CkC (P : Program) (m : Nat) (t : TypeId) (x : Value) : Prop where out : ∀ (d : Nat) (b : Bool) (h : LH) (K : Out Unit → LH → Prop), K (.ok ()) h → wps P (Instr.checkKey b (d + m) t x) h K
class CkFC (P : Program) (m : Nat) (fs : List (TypeId × Nat)) (xs : List Value) : Prop where
  out : ∀ (d : Nat) (b : Bool) (h : LH) (K : Out PUnit → LH → Prop) (l : List Field), l.map (fun f => (f.type, f.offset)) = fs → (∀ f ∈ l, f.name ≠ "_") → K (.ok ⟨⟩) h →
    wps P (forIn l PUnit.unit fun f _ =>
            if f.name ≠ "_" then do
              let x ← part f.type xs.toArray f.offset
              Instr.checkKey b (d + m) f.type x
              pure (ForInStep.yield PUnit.unit)
            else pure (ForInStep.yield PUnit.unit)) h K
instance ckInt {P : Program} {m : Nat} {t : TypeId} {k k' : IntKind} {a : Int} [hu : UlC P t (.int k')] : CkC P (m + 1) t (.int k a) := ⟨fun d b h K hk => by
  show wps P (Instr.checkKey b ((d + m) + 1) _ _) h K
  unfold Instr.checkKey
  refine wps_bind' (wps_underlying hu.out ?_)
  exact wps_pure hk⟩
instance ckBool {P : Program} {m : Nat} {t : TypeId} {a : Bool} [hu : UlC P t .bool] : CkC P (m + 1) t (.bool a) := ⟨fun d b h K hk => by
  show wps P (Instr.checkKey b ((d + m) + 1) _ _) h K
  unfold Instr.checkKey
  refine wps_bind' (wps_underlying hu.out ?_)
  exact wps_pure hk⟩
instance ckStr {P : Program} {m : Nat} {t : TypeId} {a : ByteArray} [hu : UlC P t .string] : CkC P (m + 1) t (.string a) := ⟨fun d b h K hk => by
  show wps P (Instr.checkKey b ((d + m) + 1) _ _) h K
  unfold Instr.checkKey
  refine wps_bind' (wps_underlying hu.out ?_)
  exact wps_pure hk⟩
instance ckFN {P : Program} {m : Nat} {xs : List Value} : CkFC P m [] xs := ⟨fun d b h K l hl _ hk => by
  obtain rfl : l = [] := by simpa using hl
  exact hk⟩
instance ckFS {P : Program} {m : Nat} {t : TypeId} {off : Nat} {fs : List (TypeId × Nat)} {xs : List Value} {x : Value} [px : PartC P t xs off x] [p : CkC P m t x] [q : CkFC P m fs xs] : CkFC P m ((t, off) :: fs) xs := ⟨fun d b h K l hl hn hk => by
  cases l with
  | nil => simp at hl
  | cons f l =>
    simp only [List.map_cons, List.cons.injEq, Prod.mk.injEq] at hl
    obtain ⟨⟨rfl, rfl⟩, hl⟩ := hl
    have hfn := hn f List.mem_cons_self
    simp only [List.forIn_cons]
    rw [if_pos hfn]
    simp only [bind_assoc, pure_bind]
    refine wps_bind' (px.out _ _ ?_)
    refine wps_bind' (p.out d b _ _ ?_)
    exact q.out d b h K l hl (fun g hg => hn g (List.mem_cons_of_mem _ hg)) hk⟩
instance ckStruct {P : Program} {m : Nat} {t : TypeId} {fs : List (TypeId × Nat)} {xs : List Value} [hf : FlsC P t fs] [p : CkFC P m fs xs] : CkC P (m + 1) t (.agg xs.toArray) := ⟨fun d b h K hk => by
  have h0 := hf.out
  unfold flB at h0
  cases hu : P.underlying t with
  | none => simp [hu] at h0
  | some dsc =>
    rw [hu] at h0
    cases dsc <;> simp only [reduceCtorEq] at h0
    rename_i fa
    obtain ⟨l⟩ := fa
    by_cases hc : (l.all (fun f => f.name != "_") && !P.stoodInHeld t) = true
    · rw [if_pos hc, Option.some.injEq] at h0
      simp only [Bool.and_eq_true, List.all_eq_true, Bool.not_eq_true', bne_iff_ne, ne_eq] at hc
      show wps P (Instr.checkKey b ((d + m) + 1) _ _) h K
      unfold Instr.checkKey
      refine wps_bind' (wps_underlying hu ?_)
      dsimp only
      simp only [List.forIn_toArray]
      exact wps_bind' (p.out d b h _ l h0 hc.1 (wps_pure hk))
    · rw [if_neg hc] at h0; cases h0⟩
instance ckArr2 {P : Program} {m : Nat} {t e : TypeId} {a c : Bool} [hu : UlC P t (.array 2 e)] [he : UlC P e .bool] [hz : SzC P e 1] [ha : AgC P e false] : CkC P (m + 2) t (.agg (List.toArray [.bool a, .bool c])) := ⟨fun k b h K hk => by
  show wps P (Instr.checkKey b ((k + m + 1) + 1) _ _) h K
  unfold Instr.checkKey
  refine wps_bind' (wps_underlying hu.out ?_)
  dsimp only
  have p0 : ∀ (u v : Bool) (K : Out Value → LH → Prop), K (.ok (.bool u)) h → wps P (part e (List.toArray [.bool u, .bool v]) (0 * 1)) h K := fun u v K hK => (partS (P := P) (t := e) (l := [.bool u, .bool v]) (off := 0)).out h K ha.out hK
  have p1 : ∀ (u v : Bool) (K : Out Value → LH → Prop), K (.ok (.bool v)) h → wps P (part e (List.toArray [.bool u, .bool v]) (1 * 1)) h K := fun u v K hK => (partS (P := P) (t := e) (l := [.bool u, .bool v]) (off := 1)).out h K ha.out hK
  have eb : ∀ (u : Bool) (K : Out Unit → LH → Prop), K (.ok ()) h → wps P (Instr.checkKey b (k + m + 1) e (.bool u)) h K := fun u K hK => (ckBool (P := P) (m := 0) (t := e) (a := u)).out (k + m) b h K hK
  simp only [Std.Legacy.Range.forIn_eq_forIn_range', Std.Legacy.Range.size]
  simp only [show List.range' 0 ((2 - 0 + 1 - 1) / 1) 1 = [0, 1] from rfl, List.forIn_cons, List.forIn_nil, bind_assoc, pure_bind]
  refine wps_bind' (wps_sizeOf hz.out ?_)
  refine wps_bind' (p0 a c _ ?_)
  refine wps_bind' (eb a _ ?_)
  refine wps_bind' (wps_sizeOf hz.out ?_)
  refine wps_bind' (p1 a c _ ?_)
  refine wps_bind' (eb c _ ?_)
  exact wps_pure hk⟩

theorem ck_all {P : Program} {t : TypeId} {x : Value} (m : Nat) [p : CkC P m t x] {N : Nat} (hm : m ≤ N) (b : Bool) (h : LH) (K : Out Unit → LH → Prop) (hk : K (.ok ()) h) : wps P (Instr.checkKey b N t x) h K := by
  have := p.out (N - m) b h K hk
  rwa [Nat.sub_add_cancel hm] at this
theorem eq_all {P : Program} {t : TypeId} {x y : Value} {r : Bool} (m : Nat) [p : EqC P m t x y r] {N : Nat} (hm : m ≤ N) (h : LH) (K : Out Bool → LH → Prop) (hk : K (.ok r) h) : wps P (Op.equalIn N t x y) h K := by
  have := p.out (N - m) h K hk
  rwa [Nat.sub_add_cancel hm] at this
theorem bits_str (n : Nat) (a b : ByteArray) : Instr.sameBits n (.string a) (.string b) = (a == b) := by cases n <;> rfl
theorem bits_int (n : Nat) (k : IntKind) (a : Int) : Instr.sameBits n (.int k a) (.int k a) = true := by cases n <;> simp [Instr.sameBits]
theorem bits_bool (n : Nat) (a : Bool) : Instr.sameBits n (.bool a) (.bool a) = true := by cases n <;> simp [Instr.sameBits]
theorem bits_agg {n : Nat} (hn : 0 < n) (l : List Value) (hl : ∀ v ∈ l, ∀ n, Instr.sameBits n v v = true) : Instr.sameBits n (.agg l.toArray) (.agg l.toArray) = true := by
  obtain ⟨m, rfl⟩ : ∃ m, n = m + 1 := ⟨n - 1, by omega⟩
  simp only [Instr.sameBits, Bool.and_eq_true, beq_self_eq_true, true_and, List.all_eq_true]
  intro x hx
  have : x.1 = x.2 ∧ x.1 ∈ l := by
    simp only [List.zip_eq_zipWith, List.mem_iff_getElem?] at hx
    obtain ⟨i, hi⟩ := hx
    simp only [List.getElem?_zipWith] at hi
    cases hg : l[i]? with
    | none => simp [hg] at hi
    | some v => simp only [hg] at hi; cases hi; exact ⟨rfl, List.mem_of_getElem? hg⟩
  rw [← this.1]; exact hl _ this.2 m

section
variable {κ ν : Type} [DecidableEq κ] {P : Program} {main : Bool} {S : LH → Goroutine → Prop} {b : Base} {E : Env} {ds : List Deferred} {cs : List Frame} {h : LH} {n : Nat}
variable {dst : Option Tmp} {ty : TypeId} {pos : String} {after : Array Edge} {l os : List Oper} {Fin : Env → List Deferred → LH → Prop}

theorem W.mapUp (toK : κ → Value) (toV : ν → Value) {t kt et : TypeId} {x y z : Operand} {r : Nat} {yk zv : Value} {k : κ} {v : ν} {f : κ → Option ν} {es : Array MapEntry} {c : Nat} [hu : UlC P t (.map kt et)] [hkc : KeyC P kt toK] [hx : EvC b.n E x (.map (some r))] [hy : EvC b.n E y yk] [hyk : KvC toK yk k]
    [hz : EvC b.n E z zv] [hzv : KvC toV zv v] [ho : OwnC h r] [hg : HGC h r (.map es c)] [hm : MiC toK toV es c f] (hk : ∀ es' c', MiC toK toV es' c' (updF f k v) → WL P S b cs l.toArray Fin os (putE E dst undef) ds (h.upd r (.map es' c'))) :
    WL P S b cs l.toArray Fin (⟨dst, .mapUpdate t x y z, ty, pos, after, none⟩ :: os) E ds h :=
  W.mapUpdate toK toV rfl rfl hu.out hx.out (by have := hy.out; rw [← hyk.out] at this; exact this) (by have := hz.out; rw [← hzv.out] at this; exact this) ho.out hg.out hm.out fun es' c' m => hk es' c' ⟨m⟩
theorem W.mapIns (toK : κ → Value) (toV : ν → Value) {t kt et : TypeId} {x y z : Operand} {r : Nat} {yk zv : Value} {k : κ} {v : ν} {f : κ → Option ν} {es : Array MapEntry} {c : Nat} [hu : UlC P t (.map kt et)] [hkc : KeyC P kt toK] [hx : EvC b.n E x (.map (some r))] [hy : EvC b.n E y yk] [hyk : KvC toK yk k]
    [hz : EvC b.n E z zv] [hzv : KvC toV zv v] [ho : OwnC h r] [hg : HGC h r (.map es c)] [hm : MiC toK toV es c f] (hk : ∀ es' c', MiC toK toV es' c' (updF f k v) → WL P S b cs l.toArray Fin os (putE E dst undef) ds (h.upd r (.map es' c'))) :
    WL P S b cs l.toArray Fin (⟨dst, .insert t x y z, ty, pos, after, none⟩ :: os) E ds h :=
  W.insert hu.out hx.out (by have := hy.out; rw [← hyk.out] at this; exact this) (by have := hz.out; rw [← hzv.out] at this; exact this) ho.out hg.out hm.out fun es' c' m => hk es' c' ⟨m⟩
theorem W.mapDel (toK : κ → Value) (toV : ν → Value) {t t2 kt et : TypeId} {x y : Operand} {r : Nat} {yk : Value} {k : κ} {f : κ → Option ν} {es : Array MapEntry} {c : Nat} [hu : UlC P t (.map kt et)] [hkc : KeyC P kt toK] [hx : EvC b.n E x (.map (some r))] [hy : EvC b.n E y yk] [hyk : KvC toK yk k]
    [ho : OwnC h r] [hg : HGC h r (.map es c)] [hm : MiC toK toV es c f] (hk : ∀ es' c', MiC toK toV es' c' (delF f k) → WL P S b cs l.toArray Fin os (putE E dst (.tuple #[])) ds (h.upd r (.map es' c'))) :
    WL P S b cs l.toArray Fin (⟨dst, .call { callee := .builtin .delete, args := #[x, y], argTypes := #[t, t2] }, ty, pos, after, none⟩ :: os) E ds h :=
  W.delete hu.out hx.out (by have := hy.out; rw [← hyk.out] at this; exact this) ho.out hg.out hm.out fun es' c' m => hk es' c' ⟨m⟩
theorem W.mapEn (toK : κ → Value) (toV : ν → Value) (z : ν) {t kt et : TypeId} {x y : Operand} {r : Nat} {yk : Value} {k : κ} {f : κ → Option ν} {es : Array MapEntry} {c : Nat} [hu : UlC P t (.map kt et)] [hkc : KeyC P kt toK] (hz : zrB P et = some (toV z)) [hx : EvC b.n E x (.map (some r))] [hy : EvC b.n E y yk] [hyk : KvC toK yk k]
    [ho : OwnC h r] [hg : HGC h r (.map es c)] [hm : MiC toK toV es c f]
    (hk : ∀ es' c' (st : Int), MiC toK toV es' c' (updF f k ((f k).getD z)) → StC toK es' st k → WL P S b cs l.toArray Fin os (putE E dst (.tuple (List.toArray [toV ((f k).getD z), .int .i64 st]))) ds (h.upd r (.map es' c'))) :
    WL P S b cs l.toArray Fin (⟨dst, .mapEntry t x y, ty, pos, after, none⟩ :: os) E ds h :=
  W.mapEntry hu.out hz hx.out (by have := hy.out; rw [← hyk.out] at this; exact this) ho.out hg.out hm.out fun es' c' st m s => hk es' c' st ⟨m⟩ s
theorem W.enStore (toK : κ → Value) (toV : ν → Value) {t : TypeId} {x y z : Operand} {r : Nat} {k : κ} {v : ν} {zv : Value} {f : κ → Option ν} {es : Array MapEntry} {c : Nat} {st : Int} {kk : IntKind} (hinj : ∀ a b, toK a = toK b → a = b) [hx : EvC b.n E x (.map (some r))] [hy : EvC b.n E y (.int kk st)] [hz : EvC b.n E z zv] [hzv : KvC toV zv v]
    [ho : OwnC h r] [hg : HGC h r (.map es c)] [hm : MiC toK toV es c f] [hs : StC toK es st k] (hk : ∀ es' c', MiC toK toV es' c' (updF f k v) → WL P S b cs l.toArray Fin os (putE E dst undef) ds (h.upd r (.map es' c'))) :
    WL P S b cs l.toArray Fin (⟨dst, .entryStore t x y z, ty, pos, after, none⟩ :: os) E ds h :=
  W.entryStore hinj hx.out hy.out (by have := hz.out; rw [← hzv.out] at this; exact this) ho.out hg.out hm.out hs fun es' c' m => hk es' c' ⟨m⟩
instance pLenMap {t kt et : TypeId} {x : Operand} {r : Nat} {es : Array MapEntry} {c : Nat} [hu : UlC P t (.map kt et)] [hx : EvC n E x (.map (some r))] [hg : HGC h r (.map es c)] : PopC P n E h (.call { callee := .builtin .len, args := #[x], argTypes := #[t] }) ty (.int .i64 es.size) := ⟨Pop.lenMap hu.out hx.out hg.out⟩
end

/-! ### the rest of a slice -/
/-- All but the first i elements, of sz cells each. -/
def dropV (sz i : Nat) (v : Value) : Value :=
  match v with
  | .slice a n c => .slice (if c = i then a else a.map (·.add (i * sz))) (n - i) (c - i)
  | _ => undef
theorem blk_drop {sz i : Nat} {v : Value} : blkOf (dropV sz i v) = blkOf v := by
  unfold dropV
  cases v with
  | slice a n c =>
    dsimp only
    split
    · cases a <;> rfl
    · cases a with
      | none => rfl
      | some a => simp [blkOf, add_block']
  | _ => rfl
theorem SlW.drop {h : LH} {sz i : Nat} {v : Value} {xs : List (List Value)} (p : SlW h sz v xs) (hi : i ≤ xs.length) : SlW h sz (dropV sz i v) (xs.drop i) := by
  obtain ⟨hl, ⟨rfl, rfl⟩ | ⟨b, off, cap, c, e, rfl, h1, h2, h3, h4, h5⟩⟩ := p
  · have : i = 0 := by simpa using hi
    subst this
    exact ⟨by simp, .inl ⟨by simp [dropV], by simp⟩⟩
  · have hl' : ∀ x ∈ xs.drop i, x.length = sz := fun x hx => hl x (List.mem_of_mem_drop hx)
    have hm : i * sz ≤ cap * sz := Nat.mul_le_mul_right sz (by omega)
    have hm2 : i * sz + (cap - i) * sz = cap * sz := by rw [← Nat.add_mul]; congr 1; omega
    have hm3 : i * sz + (xs.length - i) * sz = xs.length * sz := by rw [← Nat.add_mul]; congr 1; omega
    have key : (c.drop (off + i * sz)).take ((xs.length - i) * sz) = (xs.drop i).flatten := by
      have e1 : (c.drop off).drop (i * sz) = c.drop (off + i * sz) := by rw [List.drop_drop]
      have e2 : xs.flatten.drop (i * sz) = (xs.drop i).flatten := by
        conv => lhs; rw [← List.take_append_drop i xs, List.flatten_append]
        rw [List.drop_left']
        rw [flat_len (sz := sz) (fun x hx => hl x (List.mem_of_mem_take hx)), List.length_take, Nat.min_eq_left hi]
      rw [← e1, ← e2, ← h5, ← hm3, List.drop_take, Nat.add_sub_cancel_left]
    by_cases hc : cap = i
    · have hx : xs.drop i = [] := List.drop_eq_nil_of_le (by omega)
      refine ⟨hl', .inr ⟨b, off, 0, c, e, ?_, ?_, h2, h3, by omega, ?_⟩⟩
      · simp [dropV, hc]
      · rw [hx]; simp
      · rw [hx]; simp
    · refine ⟨hl', .inr ⟨b, off + i * sz, cap - i, c, e, ?_, by rw [List.length_drop]; omega, h2, h3, by omega, by rw [List.length_drop]; exact key⟩⟩
      simp only [dropV, if_neg hc, List.length_drop, Option.map_some]
      rw [add_eq (a := ⟨b, off, none⟩) rfl]
section
variable {P : Program} {n : Nat} {E : Env} {h : LH}
instance pDrop {t el ty : TypeId} {x y : Operand} {v : Value} {sz i : Nat} {kk : IntKind} {z : Int} {xs : List (List Value)} [hu : UlC P t (.slice el)] [hz : SzC P el sz] [hx : EvC n E x v] [hs : SlwC h sz v xs] [hy : EvC n E y (.int kk z)] [hn : NatC z i] [hi : LeC i xs.length] :
    PopC P n E h (.slice t x (some y) none none) ty (dropV sz i v) := ⟨by
  intro dst pos after guard h' hxt
  have hx' := hx.out
  have hy' := hy.out
  simp only [Ev] at hx' hy'
  obtain ⟨a, cap, rfl, hc, he⟩ := hs.out.sle
  have hi' := hi.out
  have hzi := hn.out
  subst hzi
  simp only [execOp, hx', hy', Option.map_some, Option.map_none]
  refine wps_v (v := dropV sz i (.slice a xs.length cap)) ?_ ⟨rfl, rfl⟩
  unfold Instr.sliceAt
  refine wps_bind' (wps_underlying hu.out ?_)
  dsimp only
  unfold Instr.slice
  refine wps_bind' (wps_underlying hu.out ?_)
  dsimp only
  have hb : Instr.sliceBounds true xs.length cap (some (.int kk (i : Nat))) none none = pure (i, xs.length, cap) := by
    unfold Instr.sliceBounds Instr.sliceBound asIntOf
    have h1 : (0 : Int) ≤ (i : Nat) ∧ ((i : Nat) : Int) ≤ (xs.length : Nat) := by omega
    have h2 : i ≤ xs.length := by omega
    simp [h1, h2]
  rw [hb]
  refine wps_bind' (wps_pure ?_)
  dsimp only
  refine wps_bind' (wps_sizeOf hz.out ?_)
  refine wps_pure ⟨rfl, ?_⟩
  simp only [dropV]⟩
end

/-! ### more of regions that draw -/
section
variable {P : Program} {S : LH → Goroutine → Prop} {b : Base} {cs : List Frame} {l : List Oper}
theorem Any.mono {ops : Array Oper} {hd : List Nat} {F F' : Env → List Deferred → LH → Prop} (hk : ∀ E ds h, F E ds h → F' E ds h) : ∀ (fuel : Nat) (listed : Array Bool) (E : Env) (ds : List Deferred) (h : LH), Any P S b cs ops hd F fuel listed E ds h → Any P S b cs ops hd F' fuel listed E ds h
  | 0, _, _, _, _, x => ⟨x.1, hk _ _ _ x.2⟩
  | fuel + 1, listed, E, ds, h, x => ⟨fun e => hk _ _ _ (x.1 e), fun i hi o ho => OpS.mono (fun E' ds' h' y => ⟨y.1, Any.mono hk fuel _ _ _ _ y.2⟩) (x.2 i hi o ho)⟩
theorem A.join {hd : List Nat} {Fin : Env → List Deferred → LH → Prop} {fuel : Nat} {listed : Array Bool} {E : Env} {ds : List Deferred} {h : LH} (F : Env → List Deferred → LH → Prop) (x : Any P S b cs l.toArray hd F fuel listed E ds h) (hk : ∀ E ds h, F E ds h → Fin E ds h) : Any P S b cs l.toArray hd Fin fuel listed E ds h := Any.mono hk _ _ _ _ _ x
/-- Two operations are ready. -/
theorem A.two {hd : List Nat} {Fin : Env → List Deferred → LH → Prop} {fuel : Nat} {listed : Array Bool} {E : Env} {ds : List Deferred} {h : LH} {oi oj : Oper} (i j : Nat) (hi : l.toArray[i]? = some oi) (hj : l.toArray[j]? = some oj) (hr : Region.ready .any l.toArray listed = [i, j])
    (xi : WL P S b cs l.toArray (fun E' ds' h' => (i ∉ hd → Ext h h' ∧ ds' = ds) ∧ Any P S b cs l.toArray hd Fin fuel (listed.setIfInBounds i true) E' ds' h') [oi] E ds h)
    (xj : WL P S b cs l.toArray (fun E' ds' h' => (j ∉ hd → Ext h h' ∧ ds' = ds) ∧ Any P S b cs l.toArray hd Fin fuel (listed.setIfInBounds j true) E' ds' h') [oj] E ds h) : Any P S b cs l.toArray hd Fin (fuel + 1) listed E ds h := by
  refine ⟨(fun e => by rw [e] at hr; cases hr), fun k hk ok hok => ?_⟩
  rw [hr] at hk
  rcases List.mem_cons.1 hk with rfl | hk
  · obtain rfl : ok = oi := Option.some.inj (hok.symm.trans hi)
    exact xi
  · obtain rfl : k = j := by simpa using hk
    obtain rfl : ok = oj := Option.some.inj (hok.symm.trans hj)
    exact xj
end
end Go.SL
/-
  The calculus of local heaps, part fifteen: regions that draw their order, whose operations keep what is known of memory, though they turn it.
-/
namespace Go.SL
open Go.Conc (G)
section
variable {P : Program} {main : Bool} {S : LH → Goroutine → Prop} {b : Base} {E : Env} {ds : List Deferred} {k : List Item} {cs : List Frame} {h : LH} {ops : Array Oper}
/-- Operations in whatever order; 'hd': those that may turn what is known (all others keep J). -/
def AnyJ (J : LH → Prop) (P : Program) (S : LH → Goroutine → Prop) (b : Base) (cs : List Frame) (ops : Array Oper) (hd : List Nat) (Fin : Env → List Deferred → LH → Prop) : Nat → Array Bool → Env → List Deferred → LH → Prop
  | 0, listed, E, ds, h => Region.ready .any ops listed = [] ∧ Fin E ds h
  | fuel + 1, listed, E, ds, h => (Region.ready .any ops listed = [] → Fin E ds h) ∧
      ∀ i ∈ Region.ready .any ops listed, ∀ o, ops[i]? = some o → OpS P S b cs ops o E ds h fun E' ds' h' => (i ∉ hd → J h' ∧ ds' = ds) ∧ AnyJ J P S b cs ops hd Fin fuel (listed.setIfInBounds i true) E' ds' h'

theorem AnyJ.sound (hS : Regime P main S) {J : LH → Prop} {hd : List Nat} : ∀ (fuel t : Nat) (listed : Array Bool) (E : Env) (ds : List Deferred) (h : LH),
    AnyJ J P S b cs ops hd (fun E ds h => S h (G (b.fr E ds k) cs)) fuel listed E ds h → S h (G (b.fr E ds (.inRegion ops (Region.linearise.go .any ops fuel t listed []) :: k)) cs) := by
  intro fuel
  induction fuel with
  | zero => intro t listed E ds h x; simpa [Region.linearise.go] using hS.regionEnd x.2
  | succ fuel ih =>
    intro t listed E ds h x
    obtain ⟨h₀, h₁⟩ := x
    simp only [Region.linearise.go]
    change S h (G (b.fr E ds (.inRegion ops (match (Region.ready .any ops listed)[t % (Region.ready .any ops listed).length]? with
      | some i => Region.linearise.go .any ops fuel (t / (Region.ready .any ops listed).length) (listed.setIfInBounds i true) [i]
      | none => [].reverse) :: k)) cs)
    cases hi : (Region.ready .any ops listed)[t % (Region.ready .any ops listed).length]? with
    | none =>
      have hnil : Region.ready .any ops listed = [] := by
        cases hr : Region.ready .any ops listed with
        | nil => rfl
        | cons x xs =>
          rw [hr] at hi
          have hlt : t % (x :: xs).length < (x :: xs).length := Nat.mod_lt _ (by simp)
          simp at hi
          simp at hlt
          omega
      simpa using hS.regionEnd (h₀ hnil)
    | some i =>
      simp only []
      rw [linearise_go_acc, List.reverse_singleton, List.singleton_append]
      have hm := List.mem_of_getElem? hi
      obtain ⟨_, o, ho, _⟩ := mem_ready.1 hm
      exact OpS.sound hS ho (fun E ds h y => ih _ _ E ds h y.2) (h₁ i hm o ho)

theorem Regime.regionJ (hS : Regime P main S) (J : LH → Prop) {id : Nat} {l : List Oper} (hm : P.follows .mixedOrders = true) (hd : List Nat)
    (x : AnyJ J P S b cs l.toArray hd (fun E ds h => S h (G (b.fr E ds k) cs)) l.length (Array.replicate l.length false) E ds h) : S h (G (b.fr E ds (.code (.region id l.toArray true) :: k)) cs) := by
  refine hS.regionDraw fun t => ?_
  simp only [Region.schedule, hm, Bool.true_or, if_true]
  exact AnyJ.sound hS _ t _ E ds h (by simpa [Region.linearise] using x)

theorem AnyJ.take {J : LH → Prop} {hd : List Nat} {Fin : Env → List Deferred → LH → Prop} {i : Nat} {oi : Oper} {v : Value} (hi : ops[i]? = some oi) (hsi : ∀ cs b, oi.op ≠ .select cs b) : ∀ (fuel : Nat) (listed : Array Bool) (E : Env) (ds : List Deferred) (h : LH),
    takeOk ops hd listed i = true → (∀ h, J h → PopW P b.n ops E h oi v) → J h → AnyJ J P S b cs ops hd Fin fuel (listed.setIfInBounds i true) (putE E oi.dst v) ds h → AnyJ J P S b cs ops hd Fin (fuel + 1) listed E ds h := by
  intro fuel
  induction fuel with
  | zero =>
    intro listed E ds h hok hp hJ x
    obtain ⟨hr, hdf, hsp⟩ := take_spec hi hok
    refine ⟨(fun e => by rw [e] at hr; cases hr), fun j hj oj hoj => ?_⟩
    by_cases hij : j = i
    · subst hij
      obtain rfl : oj = oi := Option.some.inj (hoj.symm.trans hi)
      refine ⟨.inr (fun c e => by rw [e] at hdf; cases hdf), ?_⟩
      rcases hp h hJ with ⟨hw, hp⟩ | ⟨hw, rfl⟩
      · rw [if_pos hw]
        refine wps_mono ?_ _ _ (hp h (Ext.refl h))
        rintro out h'' ⟨rfl, rfl⟩
        exact ⟨fun _ => ⟨hJ, rfl⟩, x⟩
      · rw [if_neg (by simp [hw])]
        exact ⟨fun _ => ⟨hJ, rfl⟩, x⟩
    · have := ready_mono hj hij
      rw [x.1] at this; cases this
  | succ f ih =>
    intro listed E ds h hok hp hJ x
    obtain ⟨hr, hdf, hsp⟩ := take_spec hi hok
    refine ⟨(fun e => by rw [e] at hr; cases hr), fun j hj oj hoj => ?_⟩
    by_cases hij : j = i
    · subst hij
      obtain rfl : oj = oi := Option.some.inj (hoj.symm.trans hi)
      refine ⟨.inr (fun c e => by rw [e] at hdf; cases hdf), ?_⟩
      rcases hp h hJ with ⟨hw, hp⟩ | ⟨hw, rfl⟩
      · rw [if_pos hw]
        refine wps_mono ?_ _ _ (hp h (Ext.refl h))
        rintro out h'' ⟨rfl, rfl⟩
        exact ⟨fun _ => ⟨hJ, rfl⟩, x⟩
      · rw [if_neg (by simp [hw])]
        exact ⟨fun _ => ⟨hJ, rfl⟩, x⟩
    · have hj' := ready_mono (i := i) hj hij
      obtain ⟨hl, o', ho', hed⟩ := mem_ready.1 hj
      obtain rfl : o' = oj := Option.some.inj (ho'.symm.trans hoj)
      obtain ⟨_, hap, hnh, hsj⟩ := hsp j o' hoj hij hj
      obtain ⟨ha1, ha2, ha3⟩ := Oper.apart_spec hap
      have y := x.2 j hj' o' hoj
      have hcomm : (listed.setIfInBounds i true).setIfInBounds j true = (listed.setIfInBounds j true).setIfInBounds i true := Array.setIfInBounds_comm _ _ (fun e => hij e.symm)
      have key : ∀ (w : Value) (ds' : List Deferred) (h' : LH), ((j ∉ hd → J h' ∧ ds' = ds) ∧ AnyJ J P S b cs ops hd Fin f ((listed.setIfInBounds i true).setIfInBounds j true) (putE (putE E oi.dst v) o'.dst w) ds' h') →
          ((j ∉ hd → J h' ∧ ds' = ds) ∧ AnyJ J P S b cs ops hd Fin (f + 1) (listed.setIfInBounds j true) (putE E o'.dst w) ds' h') := by
        rintro w ds' h' ⟨z1, z2⟩
        refine ⟨z1, ih _ _ _ _ (take_mono hi hoj hok (fun e => hij e.symm) hj) (fun h'' hj => (hp h'' hj).later hsi hap (Ext.refl h'')) (z1 hnh).1 ?_⟩
        rw [← hcomm, ← putE_comm v w ha2]; exact z2
      refine ⟨y.1, ?_⟩
      have y2 := y.2
      rw [wanted_putE o' ha1, execOp_putE o' hsj ha1] at y2
      split
      · rw [if_pos ‹_›] at y2
        refine wps_mono ?_ _ _ y2
        intro out h' z
        rcases out with a | p
        · cases a with
          | value w => exact key w ds h' z
          | skip => exact key undef ds h' z
          | enter fx args => exact fun c h1 h2 => z c (fun u h'' hu => h1 u h'' (key u ds h'' hu)) h2
          | round l fx t a bd => exact fun c h1 h2 => z c (fun u h'' hu => h1 u h'' (key u ds h'' hu)) h2
          | defer d => exact key undef (d :: ds) h' z
          | _ => exact z
        · exact z
      · rw [if_neg ‹_›] at y2
        exact key undef ds h y2

/-- All that is ready is one operation. -/
theorem AnyJ.one {J : LH → Prop} {hd : List Nat} {Fin : Env → List Deferred → LH → Prop} {fuel i : Nat} {o : Oper} {listed : Array Bool} (hr : Region.ready .any ops listed = [i]) (ho : ops[i]? = some o)
    (x : OpS P S b cs ops o E ds h fun E' ds' h' => (i ∉ hd → J h' ∧ ds' = ds) ∧ AnyJ J P S b cs ops hd Fin fuel (listed.setIfInBounds i true) E' ds' h') : AnyJ J P S b cs ops hd Fin (fuel + 1) listed E ds h := by
  refine ⟨(fun e => by rw [e] at hr; cases hr), fun j hj oj hoj => ?_⟩
  rw [hr] at hj
  obtain rfl : j = i := by simpa using hj
  obtain rfl : oj = o := Option.some.inj (hoj.symm.trans ho)
  exact x

theorem AnyJ.done {J : LH → Prop} {hd : List Nat} {Fin : Env → List Deferred → LH → Prop} {fuel : Nat} {listed : Array Bool} (hr : Region.ready .any ops listed = []) (x : Fin E ds h) : AnyJ J P S b cs ops hd Fin fuel listed E ds h := by
  cases fuel with
  | zero => exact ⟨hr, x⟩
  | succ f => exact ⟨fun _ => x, fun i hi => by rw [hr] at hi; cases hi⟩
end
section
variable {P : Program} {main : Bool} {S : LH → Goroutine → Prop} {b : Base} {E : Env} {ds : List Deferred} {k : List Item} {cs : List Frame} {h : LH} {l : List Oper}
variable {dst : Option Tmp} {op : Op} {ty : TypeId} {pos : String} {after : Array Edge} {Fin : Env → List Deferred → LH → Prop} {J : LH → Prop}
theorem J.take {hd : List Nat} {fuel : Nat} {listed : Array Bool} {v : Value} (i : Nat) (hi : l.toArray[i]? = some ⟨dst, op, ty, pos, after, none⟩) (hok : takeOk l.toArray hd listed i = true) (hsi : ∀ cs b, op ≠ .select cs b) (hJ : J h) (p : ∀ h, J h → PopC P b.n E h op ty v)
    (x : AnyJ J P S b cs l.toArray hd Fin fuel (listed.setIfInBounds i true) (putE E dst v) ds h) : AnyJ J P S b cs l.toArray hd Fin (fuel + 1) listed E ds h := AnyJ.take hi hsi fuel listed E ds h hok (fun h hj => PopW.of (p h hj).out) hJ x
theorem J.one {hd : List Nat} {fuel : Nat} {o : Oper} {listed : Array Bool} (i : Nat) (hi : l.toArray[i]? = some o) (hr : Region.ready .any l.toArray listed = [i])
    (x : WL P S b cs l.toArray (fun E' ds' h' => (i ∉ hd → J h' ∧ ds' = ds) ∧ AnyJ J P S b cs l.toArray hd Fin fuel (listed.setIfInBounds i true) E' ds' h') [o] E ds h) : AnyJ J P S b cs l.toArray hd Fin (fuel + 1) listed E ds h := AnyJ.one hr hi x
theorem J.keep {hd : List Nat} {fuel i : Nat} {listed : Array Bool} (hJ : J h) (x : AnyJ J P S b cs l.toArray hd Fin fuel listed E ds h) :
    WL P S b cs l.toArray (fun E' ds' h' => (i ∉ hd → J h' ∧ ds' = ds) ∧ AnyJ J P S b cs l.toArray hd Fin fuel listed E' ds' h') [] E ds h := ⟨fun _ => ⟨hJ, rfl⟩, x⟩
theorem J.hard {hd : List Nat} {fuel i : Nat} {listed : Array Bool} {ds₀ : List Deferred} (hi : hd.contains i = true) (x : AnyJ J P S b cs l.toArray hd Fin fuel listed E ds h) :
    WL P S b cs l.toArray (fun E' ds' h' => (i ∉ hd → J h' ∧ ds' = ds₀) ∧ AnyJ J P S b cs l.toArray hd Fin fuel listed E' ds' h') [] E ds h := ⟨fun hn => absurd (by simpa using hi) hn, x⟩
theorem AnyJ.mono {ops : Array Oper} {hd : List Nat} {F F' : Env → List Deferred → LH → Prop} (hk : ∀ E ds h, F E ds h → F' E ds h) : ∀ (fuel : Nat) (listed : Array Bool) (E : Env) (ds : List Deferred) (h : LH), AnyJ J P S b cs ops hd F fuel listed E ds h → AnyJ J P S b cs ops hd F' fuel listed E ds h
  | 0, _, _, _, _, x => ⟨x.1, hk _ _ _ x.2⟩
  | fuel + 1, listed, E, ds, h, x => ⟨fun e => hk _ _ _ (x.1 e), fun i hi o ho => OpS.mono (fun E' ds' h' y => ⟨y.1, AnyJ.mono hk fuel _ _ _ _ y.2⟩) (x.2 i hi o ho)⟩
theorem J.join {hd : List Nat} {fuel : Nat} {listed : Array Bool} (F : Env → List Deferred → LH → Prop) (x : AnyJ J P S b cs l.toArray hd F fuel listed E ds h) (hk : ∀ E ds h, F E ds h → Fin E ds h) : AnyJ J P S b cs l.toArray hd Fin fuel listed E ds h := AnyJ.mono hk _ _ _ _ _ x
theorem J.two {hd : List Nat} {fuel : Nat} {listed : Array Bool} {oi oj : Oper} (i j : Nat) (hi : l.toArray[i]? = some oi) (hj : l.toArray[j]? = some oj) (hr : Region.ready .any l.toArray listed = [i, j])
    (xi : WL P S b cs l.toArray (fun E' ds' h' => (i ∉ hd → J h' ∧ ds' = ds) ∧ AnyJ J P S b cs l.toArray hd Fin fuel (listed.setIfInBounds i true) E' ds' h') [oi] E ds h)
    (xj : WL P S b cs l.toArray (fun E' ds' h' => (j ∉ hd → J h' ∧ ds' = ds) ∧ AnyJ J P S b cs l.toArray hd Fin fuel (listed.setIfInBounds j true) E' ds' h') [oj] E ds h) : AnyJ J P S b cs l.toArray hd Fin (fuel + 1) listed E ds h := by
  refine ⟨(fun e => by rw [e] at hr; cases hr), fun k hk ok hok => ?_⟩
  rw [hr] at hk
  rcases List.mem_cons.1 hk with rfl | hk
  · obtain rfl : ok = oi := Option.some.inj (hok.symm.trans hi)
    exact xi
  · obtain rfl : k = j := by simpa using hk
    obtain rfl : ok = oj := Option.some.inj (hok.symm.trans hj)
    exact xj
end
end Go.SL
namespace Go.SL
open Go.Conc (G)
def Apt (u v : Value) : Prop := ∀ b, blkOf u = some b → blkOf v ≠ some b
theorem Apt.symm {u v : Value} (a : Apt u v) : Apt v u := fun b h1 h2 => a b h2 h1
/-- What has been made since h0: blocks with what they hold, slices with their parts; no two share a block. -/
structure St (h0 h : LH) (qs : List (Nat × Obj)) (vs : List (Nat × Value × List (List Value))) : Prop where
  ex : Ext h0 h
  hg : ∀ x ∈ qs, HG h x.1 x.2 ∧ Own h x.1 ∧ h0.get x.1 = none
  sl : ∀ v ∈ vs, SlW h v.1 v.2.1 v.2.2 ∧ NewB h0 v.2.1
  nb : ∀ x ∈ qs, ∀ v ∈ vs, blkOf v.2.1 ≠ some x.1
  apt : vs.Pairwise fun u v => Apt u.2.1 v.2.1
  qd : (qs.map Prod.fst).Nodup
theorem St.ext' {h0 h h' : LH} {qs : List (Nat × Obj)} {vs : List (Nat × Value × List (List Value))} (k : St h0 h qs vs) (x : Ext h h') : St h0 h' qs vs :=
  ⟨k.ex.trans x, fun y hy => ⟨(k.hg y hy).1.ext x, (k.hg y hy).2.1.ext x, (k.hg y hy).2.2⟩, fun v hv => ⟨(k.sl v hv).1.ext x, (k.sl v hv).2⟩, k.nb, k.apt, k.qd⟩
theorem St.nil {h : LH} : St h h [] [] := ⟨Ext.refl h, by simp, by simp, by simp, .nil, by simp⟩
/-- A block more. -/
theorem St.block {h0 h h' : LH} {qs : List (Nat × Obj)} {vs : List (Nat × Value × List (List Value))} (k : St h0 h qs vs) (x : Ext h h') {p : Nat} {o : Obj} (f : h.get p = none) (g : HG h' p o) (ho : Own h' p) : St h0 h' ((p, o) :: qs) vs := by
  have hn : ∀ y ∈ qs, y.1 ≠ p := fun y hy e => by
    have := (k.hg y hy).1; simp only [HG] at this; rw [e, f] at this; cases this
  have k' := k.ext' x
  have f0 : h0.get p = none := by
    cases hg : h0.get p with
    | none => rfl
    | some o => rw [k.ex.get p o hg] at f; cases f
  refine ⟨k'.ex, fun y hy => ?_, k'.sl, fun y hy v hv => ?_, k'.apt, ?_⟩
  · rcases List.mem_cons.1 hy with rfl | hy
    · exact ⟨g, ho, f0⟩
    · exact k'.hg y hy
  · rcases List.mem_cons.1 hy with rfl | hy
    · exact fun e => (k.sl v hv).1.dom e f
    · exact k'.nb y hy v hv
  · rw [List.map_cons, List.nodup_cons]
    refine ⟨fun hm => ?_, k'.qd⟩
    obtain ⟨y, hy, e⟩ := List.mem_map.1 hm
    exact hn y hy e
/-- A slice more. -/
theorem St.slice {h0 h h' : LH} {qs : List (Nat × Obj)} {vs : List (Nat × Value × List (List Value))} (k : St h0 h qs vs) (x : Ext h h') {sz : Nat} {v : Value} {xs : List (List Value)} (f : NewB h v) (w : SlW h' sz v xs) : St h0 h' qs ((sz, v, xs) :: vs) := by
  have k' := k.ext' x
  have n0 : NewB h0 v := fun b hb => by
    cases hg : h0.get b with
    | none => rfl
    | some o => have := f b hb; rw [k.ex.get b o hg] at this; cases this
  refine ⟨k'.ex, k'.hg, fun y hy => ?_, fun y hy u hu => ?_, List.pairwise_cons.2 ⟨fun u hu b h1 h2 => (k.sl u hu).1.dom h2 (f b h1), k'.apt⟩, k'.qd⟩
  · rcases List.mem_cons.1 hy with rfl | hy
    · exact ⟨w, n0⟩
    · exact k'.sl y hy
  · rcases List.mem_cons.1 hu with rfl | hu
    · intro e
      have h1 := f _ e
      have h2 := (k.hg y hy).1
      simp only [HG] at h2; rw [h1] at h2; cases h2
    · exact k'.nb y hy u hu
/-- A slice is appended to. -/
theorem St.app {h0 h h' : LH} {qs : List (Nat × Obj)} (pre : List (Nat × Value × List (List Value))) {post : List (Nat × Value × List (List Value))} {sz sz' : Nat} {v v' : Value} {xs xs' : List (List Value)} (k : St h0 h qs (pre ++ (sz, v, xs) :: post))
    (fr : FrW h h' v) (w : SlW h' sz' v' xs') (hb : blkOf v' = blkOf v ∨ ∃ p, blkOf v' = some p ∧ h.get p = none) : St h0 h' qs (pre ++ (sz', v', xs') :: post) := by
  have hv := k.sl (sz, v, xs) (by simp)
  have ot : ∀ u ∈ pre ++ post, Apt u.2.1 v ∧ Apt u.2.1 v' := fun u hu => by
    have h1 : Apt u.2.1 v := by
      have := k.apt
      rw [List.pairwise_append] at this
      rcases List.mem_append.1 hu with hu | hu
      · exact this.2.2 u hu _ List.mem_cons_self
      · exact (List.rel_of_pairwise_cons this.2.1 hu : Apt _ _).symm
    refine ⟨h1, fun b h2 h3 => ?_⟩
    rcases hb with hb | ⟨p, h4, h5⟩
    · exact h1 b h2 (hb ▸ h3)
    · rw [h4] at h3; cases h3
      have hu' : u ∈ pre ++ (sz, v, xs) :: post := by
        rcases List.mem_append.1 hu with h | h
        · exact List.mem_append.2 (.inl h)
        · exact List.mem_append.2 (.inr (List.mem_cons_of_mem _ h))
      exact (k.sl u hu').1.dom h2 h5
  have mem : ∀ u, u ∈ pre ++ (sz', v', xs') :: post → u = (sz', v', xs') ∨ u ∈ pre ++ post := fun u hu => by
    simp only [List.mem_append, List.mem_cons] at hu ⊢
    rcases hu with h | h | h
    · exact .inr (.inl h)
    · exact .inl h
    · exact .inr (.inr h)
  have mem2 : ∀ u, u ∈ pre ++ post → u ∈ pre ++ (sz, v, xs) :: post := fun u hu => by
    simp only [List.mem_append, List.mem_cons] at hu ⊢
    rcases hu with h | h
    · exact .inl h
    · exact .inr (.inr h)
  refine ⟨fr.ext hv.2 k.ex, fun y hy => ?_, fun u hu => ?_, fun y hy u hu => ?_, ?_, k.qd⟩
  · have h1 := k.hg y hy
    exact ⟨fr.get _ _ h1.1 (k.nb y hy (sz, v, xs) (by simp)), fr.own _ h1.2.1, h1.2.2⟩
  · rcases mem u hu with rfl | hu
    · refine ⟨w, fun b e => ?_⟩
      rcases hb with hb | ⟨p, h4, h5⟩
      · exact hv.2 b (hb ▸ e)
      · rw [h4] at e; cases e
        cases hg : h0.get b with
        | none => rfl
        | some o => rw [k.ex.get b o hg] at h5; cases h5
    · have := k.sl u (mem2 u hu)
      exact ⟨this.1.frw fr fun b h1 h2 => (ot u hu).1 b h1 h2, this.2⟩
  · rcases mem u hu with rfl | hu
    · intro e
      rcases hb with hb | ⟨p, h4, h5⟩
      · exact k.nb y hy (sz, v, xs) (by simp) (hb ▸ e)
      · rw [h4] at e; cases e
        have := (k.hg y hy).1; simp only [HG] at this; rw [h5] at this; cases this
    · exact k.nb y hy u (mem2 u hu)
  · have := k.apt
    rw [List.pairwise_append] at this ⊢
    refine ⟨this.1, List.pairwise_cons.2 ⟨fun u hu => ((ot u (List.mem_append.2 (.inr hu))).2).symm, (List.pairwise_cons.1 this.2.1).2⟩, fun a ha u hu => ?_⟩
    rcases List.mem_cons.1 hu with rfl | hu
    · exact (ot a (List.mem_append.2 (.inl ha))).2
    · exact this.2.2 a ha u (List.mem_cons_of_mem _ hu)
/-- A block is written. -/
theorem St.upd {h0 h : LH} (pre : List (Nat × Obj)) {post : List (Nat × Obj)} {vs : List (Nat × Value × List (List Value))} {p : Nat} {o o' : Obj} (k : St h0 h (pre ++ (p, o) :: post) vs) : St h0 (h.upd p o') (pre ++ (p, o') :: post) vs := by
  have hp := k.hg (p, o) (by simp)
  have hd := k.qd
  rw [List.map_append, List.map_cons, List.nodup_append] at hd
  have hne : ∀ y ∈ pre ++ post, y.1 ≠ p := fun y hy e => by
    rcases List.mem_append.1 hy with hy | hy
    · exact hd.2.2 y.1 (List.mem_map.2 ⟨y, hy, rfl⟩) p List.mem_cons_self e
    · exact (List.nodup_cons.1 hd.2.1).1 (e ▸ List.mem_map.2 ⟨y, hy, rfl⟩)
  have mem : ∀ y, y ∈ pre ++ (p, o') :: post → y = (p, o') ∨ y ∈ pre ++ post := fun u hu => by
    simp only [List.mem_append, List.mem_cons] at hu ⊢
    rcases hu with h | h | h
    · exact .inr (.inl h)
    · exact .inl h
    · exact .inr (.inr h)
  have mem2 : ∀ u, u ∈ pre ++ post → u ∈ pre ++ (p, o) :: post := fun u hu => by
    simp only [List.mem_append, List.mem_cons] at hu ⊢
    rcases hu with h | h
    · exact .inl h
    · exact .inr (.inr h)
  refine ⟨Ext.upd' k.ex hp.2.2, fun y hy => ?_, fun u hu => ?_, fun y hy u hu => ?_, k.apt, ?_⟩
  · rcases mem y hy with rfl | hy
    · exact ⟨HG.hit, Own.hit, hp.2.2⟩
    · have := k.hg y (mem2 y hy)
      exact ⟨this.1.ne (hne y hy), this.2.1.miss, this.2.2⟩
  · have := k.sl u hu
    exact ⟨this.1.ne (k.nb (p, o) (by simp) u hu), this.2⟩
  · rcases mem y hy with rfl | hy
    · exact k.nb (p, o) (by simp) u hu
    · exact k.nb y (mem2 y hy) u hu
  · rw [List.map_append, List.map_cons, List.nodup_append]; exact hd
/-- Fewer blocks. -/
theorem St.less {h0 h : LH} {qs qs' : List (Nat × Obj)} {vs : List (Nat × Value × List (List Value))} (k : St h0 h qs vs) (s : qs'.Sublist qs) : St h0 h qs' vs :=
  ⟨k.ex, fun x hx => k.hg x (s.subset hx), k.sl, fun x hx => k.nb x (s.subset hx), k.apt, k.qd.sublist (s.map _)⟩
theorem slw_new {h : LH} {p sz m : Nat} {c : List Value} {e : TypeId} {xs : List (List Value)} (hl : ∀ x ∈ xs, x.length = sz) (hm : xs.length = m) (hc : xs.flatten = c) : SlW (h.upd p (.cells c.toArray e (0, 0))) sz (.slice (some ⟨p, 0, none⟩) m m) xs := by
  subst hc hm
  refine ⟨hl, .inr ⟨p, 0, xs.length, xs.flatten, e, rfl, Nat.le_refl _, Own.hit, HG.hit, ?_, ?_⟩⟩
  · rw [flat_len hl]; simp
  · rw [List.drop_zero, ← flat_len hl, List.take_length]
theorem new_blk {h : LH} {p l c : Nat} (f : h.get p = none) : NewB h (.slice (some ⟨p, 0, none⟩) l c) := fun b hb => by
  simp only [blkOf, Option.some.injEq] at hb
  subst hb; exact f
theorem new_nil {h : LH} {l c : Nat} : NewB h (.slice none l c) := fun b hb => by simp [blkOf] at hb
theorem slw_nil {h : LH} {sz : Nat} : SlW h sz (.slice none 0 0) [] := ⟨by simp, .inl ⟨rfl, rfl⟩⟩
end Go.SL
