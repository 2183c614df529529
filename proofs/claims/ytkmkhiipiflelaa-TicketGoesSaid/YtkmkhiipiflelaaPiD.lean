import Derived.Test.YtkmkhiipiflelaaPiC
/-! PI, part D: indexes, conversions, literals, and all worldless operations under one name. -/
set_option linter.unusedVariables false
set_option linter.unusedSimpArgs false
namespace Go.Proofs.PI
section
variable {P : Program} {T : TypeId → Option TD} {φ : Ph}

def asliceElem (T : TypeId → Option TD) (t : TypeId) : Option (TypeId × Nat) :=
  match tk T t with
  | .slice e => (asize T e).map fun n => (e, n)
  | _ => none
theorem asliceElem_is (hT : TOk P T) {t e : TypeId} {n : Nat} (h : asliceElem T t = some (e, n)) : P.underlying t = some (.slice e) ∧ asize T e = some n := by
  unfold asliceElem at h
  split at h
  · rename_i e' hk
    obtain ⟨d, i, u, z, hd, hdk, hi⟩ := tk_is hT hk (by simp)
    cases ha : asize T e' with
    | none => rw [ha] at h; cases h
    | some m =>
      rw [ha] at h
      simp only [Option.map_some, Option.some.injEq, Prod.mk.injEq] at h
      obtain ⟨rfl, rfl⟩ := h
      exact ⟨by rw [hi.und, tkOf_slice (hi.k.trans hdk)], ha⟩
  · cases h

def aindexAddr (T : TypeId → Option TD) (t : TypeId) (x i : AV) : Option AV :=
  match x, i, asliceElem T t with
  | .sl b o len _, .int _ n, some (_, sz) => if 0 ≤ n ∧ n < len then some (.ptr b (o + n.toNat * sz)) else none
  | .lst len cs, .int _ n, some (_, sz) => if 0 ≤ n ∧ n < len ∧ n.toNat * sz ≤ cs.length then some (.cptr ((cs.drop (n.toNat * sz)).take sz)) else none
  | _, _, _ => none
theorem aindexAddr_run (hT : TOk P T) {t : TypeId} {x i v : AV} (h : aindexAddr T t x i = some v) {x' i' : Value} (hx : RV φ x x') (hi : RV φ i i') :
    ∃ u, RV φ v u ∧ ∀ w, (Instr.indexAt t x' i').run P w = .ok u w := by
  unfold aindexAddr at h
  split at h
  · rename_i b o len cap k n e sz he
    obtain ⟨hu, hs⟩ := asliceElem_is hT he
    split at h
    · rename_i hn
      simp only [Option.some.injEq] at h; subst h
      cases hx; cases hi
      rename_i L c hL hc
      refine ⟨_, .ptr b (o + n.toNat * sz) L hL, fun w => ?_⟩
      simp [Instr.indexAt, asIntOf, run_underlying hu, hn.1, hn.2, asize_run hT hs, addr_add, Nat.add_assoc]
    · cases h
  · rename_i len cs k n e sz he
    obtain ⟨hu, hs⟩ := asliceElem_is hT he
    split at h
    · rename_i hn
      simp only [Option.some.injEq] at h; subst h
      cases hi
      cases hx
      · rename_i r o c z hz hc hl h1 hx
        refine ⟨_, (RV.cptr_drop hz hl h1 hx hn.2.2).cptr_take _, fun w => ?_⟩
        simp [Instr.indexAt, asIntOf, run_underlying hu, hn.1, hn.2.1, asize_run hT hs, addr_add]
      · omega
      · omega
    · cases h
  · cases h

def aindex (T : TypeId → Option TD) (t : TypeId) (x i : AV) : Option AV :=
  match x, i, tk T t with
  | .str s, .int _ n, .str => if 0 ≤ n then (s[n.toNat]?).map fun b => .int .u8 b.toNat else none
  | _, _, _ => none
theorem aindex_run (hT : TOk P T) {t : TypeId} {x i v : AV} (h : aindex T t x i = some v) {x' i' : Value} (hx : RV φ x x') (hi : RV φ i i') :
    ∃ u, RV φ v u ∧ ∀ w, (Instr.index t x' i').run P w = .ok u w := by
  unfold aindex at h
  split at h
  · rename_i s k n hk
    obtain ⟨d, ti, u, z, hd, hdk, his⟩ := tk_is hT hk (by simp)
    have hu : P.underlying t = some .string := by rw [his.und, tkOf_str (his.k.trans hdk)]
    split at h
    · rename_i hn
      cases hb : s[n.toNat]? with
      | none => rw [hb] at h; cases h
      | some b =>
        rw [hb] at h
        simp only [Option.map_some, Option.some.injEq] at h; subst h
        cases hx; cases hi
        refine ⟨_, .int _ _, fun w => ?_⟩
        have hlt : n.toNat < s.length := (List.getElem?_eq_some_iff.1 hb).1
        have hg : (ByteArray.mk s.toArray)[n.toNat]? = some b := by
          rw [getElem?_pos _ _ (by simpa [mk_size] using hlt)]
          have := (List.getElem?_eq_some_iff.1 hb).2
          simp only [Option.some.injEq]
          rw [← this]
          rfl
        simp [Instr.index, asIntOf, run_underlying hu, hn, hg]
    · cases h
  · cases h

def aextract (x : AV) (ix : Nat) : Option AV :=
  match x with
  | .tup l => l[ix]?
  | _ => none
theorem aextract_run {x v : AV} {ix : Nat} (h : aextract x ix = some v) {x' : Value} (hx : RV φ x x') : ∃ u, RV φ v u ∧ ∀ w, (Instr.extract x' ix).run P w = .ok u w := by
  unfold aextract at h
  split at h
  · obtain ⟨vs, rfl, hs⟩ := RV.tup_iff.1 hx
    obtain ⟨u, hu, hr⟩ := hs.getD ix h
    refine ⟨u, hr, fun w => ?_⟩
    have : vs[ix]? = some u := by simpa using hu
    simp [Instr.extract, this]
  · cases h

/-- Conversions that touch no memory. -/
def aconv (T : TypeId → Option TD) (src dst : TypeId) (x : AV) : Option AV :=
  match T src, tk T dst, x with
  | some _, .int k, .int _ n => some (.int k (k.wrap n))
  | some _, .str, .str s => some (.str s)
  | _, _, _ => none
theorem aconv_run (hT : TOk P T) {src dst : TypeId} {x v : AV} (h : aconv T src dst x = some v) {x' : Value} (hx : RV φ x x') : ∃ u, RV φ v u ∧ ∀ w, (convert src dst x').run P w = .ok u w := by
  unfold aconv at h
  split at h
  · rename_i ds k k' n hs hk
    obtain ⟨d, i, u, z, hd, hdk, hi⟩ := tk_is hT hk (by simp)
    obtain ⟨i', u', z', hi'⟩ := tdOf_is (hT src _ hs)
    have hu : P.underlying dst = some (.int k) := by rw [hi.und, tkOf_int (hi.k.trans hdk)]
    simp only [Option.some.injEq] at h; subst h
    cases hx
    refine ⟨_, .int _ _, fun w => ?_⟩
    simp [convert, run_underlying hu, run_underlying hi'.und, Conv.intToInt]
  · rename_i ds s hs hk
    obtain ⟨d, i, u, z, hd, hdk, hi⟩ := tk_is hT hk (by simp)
    obtain ⟨i', u', z', hi'⟩ := tdOf_is (hT src _ hs)
    have hu : P.underlying dst = some .string := by rw [hi.und, tkOf_str (hi.k.trans hdk)]
    simp only [Option.some.injEq] at h; subst h
    cases hx
    refine ⟨_, .str _, fun w => ?_⟩
    simp [convert, run_underlying hu, run_underlying hi'.und]
  · cases h

def anilCheck (x : AV) : Option AV :=
  match x with
  | .ptr b o => some (.ptr b o)
  | .cptr cs => some (.cptr cs)
  | .fn f a b => some (.fn f a b)
  | _ => none

def amakeFunc (fn : Fn) (a b : List AV) : Option AV := match fn with
  | .func f => some (.fn f a b)
  | _ => none

/-! ### struct literals -/
/-- Cells written into a row of cells. -/
def wr (l : List AV) (o : Nat) : List AV → List AV
  | [] => l
  | c :: cs => wr (l.set o c) (o + 1) cs
def wrV (l : List Value) (o : Nat) : List Value → List Value
  | [] => l
  | c :: cs => wrV (l.set o c) (o + 1) cs
theorem wr_length (l : List AV) (o : Nat) (cs : List AV) : (wr l o cs).length = l.length := by
  induction cs generalizing l o with
  | nil => rfl
  | cons c cs ih => simp [wr, ih]
theorem wr_rvs {l : List AV} {vs : List Value} (h : RVs φ l vs) (o : Nat) {cs : List AV} {us : List Value} (hc : RVs φ cs us) : RVs φ (wr l o cs) (wrV vs o us) := by
  induction cs generalizing l vs o us with
  | nil => obtain rfl := hc.nil_left; exact h
  | cons c cs ih =>
    obtain ⟨u, us', rfl, h1, h2⟩ := hc.cons_left
    exact ih (h.set o h1) (o + 1) h2

def apartsFill (place : Nat → Option (Nat × Nat)) (cells : List AV) : List (Nat × AV) → Option (List AV)
  | [] => some cells
  | (i, v) :: rest =>
    match place i with
    | none => none
    | some (off, size) => if v.solid = true ∧ v.cells.length = size ∧ off + v.cells.length ≤ cells.length then apartsFill place (wr cells off v.cells) rest else none

theorem foldl_set (l : List (Value × Nat)) (a : Array Value) (off : Nat) :
    (l.foldl (fun cs (p : Value × Nat) => cs.setIfInBounds (off + p.2) p.1) a).toList = l.foldl (fun cs (p : Value × Nat) => cs.set (off + p.2) p.1) a.toList := by
  induction l generalizing a with
  | nil => rfl
  | cons p l ih => simp [ih]
theorem foldl_wrV (us : List Value) (l : List Value) (off k : Nat) :
    ((us.zipIdx k).foldl (fun cs (p : Value × Nat) => cs.set (off + p.2) p.1) l) = wrV l (off + k) us := by
  induction us generalizing l k with
  | nil => rfl
  | cons u us ih => simp [List.zipIdx_cons, wrV, ih, Nat.add_assoc]

theorem apartsFill_run (place : Nat → Option (Nat × Nat)) {cells : List AV} {parts : List (Nat × AV)} {out : List AV} (h : apartsFill place cells parts = some out)
    {vs : Array Value} (hv : RVs φ cells vs.toList) {ps : List (Nat × Value)} (hp : parts.map (·.1) = ps.map (·.1)) (hq : RVs φ (parts.map (·.2)) (ps.map (·.2))) :
    ∃ us, Instr.fill place vs ps = some us ∧ RVs φ out us.toList := by
  induction parts generalizing cells vs ps with
  | nil =>
    cases ps with
    | nil => simp only [apartsFill, Option.some.injEq] at h; subst h; exact ⟨vs, rfl, hv⟩
    | cons _ _ => simp at hp
  | cons p parts ih =>
    cases ps with
    | nil => simp at hp
    | cons q ps =>
      obtain ⟨i, v⟩ := p
      obtain ⟨j, u⟩ := q
      simp only [List.map_cons, List.cons.injEq] at hp
      obtain ⟨rfl, hp⟩ := hp
      simp only [List.map_cons] at hq
      simp only [apartsFill] at h
      split at h
      · cases h
      · rename_i off size hpl
        split at h
        · rename_i hc
          obtain ⟨hsol, hsz, hfit⟩ := hc
          have hcs := (hq.head.cells hsol).1
          have hlen : u.cells.size = v.cells.length := by have := hcs.1; simp at this; exact this.symm
          have hvl : vs.size = cells.length := by have := hv.1; simp at this; exact this.symm
          simp only [Instr.fill, hpl]
          rw [if_neg (by simp [hlen, hsz, hvl]; omega)]
          refine ih h ?_ hp hq.tail
          have e : (u.cells.zipIdx.foldl (fun cs (x : Value × Nat) => cs.setIfInBounds (off + x.2) x.1) vs).toList = wrV vs.toList off u.cells.toList := by
            rw [← Array.foldl_toList, foldl_set]
            have := foldl_wrV u.cells.toList vs.toList off 0
            simpa using this
          have := wr_rvs hv off hcs
          rw [← e] at this
          exact this
        · cases h

def aplaces (T : TypeId → Option TD) : List (Nat × TypeId) → Option (List (Nat × Nat))
  | [] => some []
  | (off, ty) :: l => match asize T ty, aplaces T l with
    | some n, some r => some ((off, n) :: r)
    | _, _ => none
theorem aplaces_run (hT : TOk P T) {gs : List Field} {ps : List (Nat × Nat)} (h : aplaces T (gs.map fun f => (f.offset, f.type)) = some ps) (w : World) :
    (gs.mapM (fun f => do pure (f.offset, ← sizeOf f.type) : Field → Sem (Nat × Nat))).run P w = .ok ps w := by
  induction gs generalizing ps with
  | nil => simp only [List.map_nil, aplaces, Option.some.injEq] at h; subst h; simp
  | cons g gs ih =>
    simp only [List.map_cons, aplaces] at h
    split at h
    · rename_i n r hn hr
      simp only [Option.some.injEq] at h; subst h
      simp only [List.mapM_cons, Sem.run_bind, asize_run hT hn, Result.andThen_ok, ih hr, Sem.run_pure]
    · cases h

def abuild (T : TypeId → Option TD) (t : TypeId) (parts : List (Nat × AV)) : Option AV :=
  match T t with
  | some d => match d.k with
    | .struct fs => match aplaces T fs with
      | some ps => (apartsFill (ps[·]?) d.zero parts).map .agg
      | none => none
    | _ => none
  | none => none
theorem abuild_run (hT : TOk P T) {t : TypeId} {parts : List (Nat × AV)} {v : AV} (h : abuild T t parts = some v) {ps : Array (Nat × Value)} (hp : parts.map (·.1) = ps.toList.map (·.1)) (hq : RVs φ (parts.map (·.2)) (ps.toList.map (·.2))) :
    ∃ u, RV φ v u ∧ ∀ w, (Instr.build t ps).run P w = .ok u w := by
  unfold abuild at h
  split at h
  · rename_i d hd
    obtain ⟨i, u, z, hi⟩ := tdOf_is (hT t d hd)
    split at h
    · rename_i fs hk
      obtain ⟨gs, rfl, hg⟩ := tkOf_struct (hi.k.trans hk)
      split at h
      · rename_i pl hpl
        cases hf : apartsFill (pl[·]?) d.zero parts with
        | none => rw [hf] at h; cases h
        | some out =>
          rw [hf] at h
          simp only [Option.map_some, Option.some.injEq] at h; subst h
          have hz : RVs φ d.zero z.cells.toList := by rw [← hi.zeros]; exact RVs.cav1s φ _
          obtain ⟨us, h1, h2⟩ := apartsFill_run (pl[·]?) hf hz hp hq
          refine ⟨.agg us, RV.agg_iff.2 ⟨us, rfl, h2⟩, fun w => ?_⟩
          rw [← hg] at hpl
          have hm := aplaces_run (P := P) hT hpl w
          have hm' : (gs.mapM (fun f => do pure (f.offset, ← sizeOf f.type) : Field → Sem (Nat × Nat))).run P w = .ok pl.toArray w := by
            rw [Array.mapM_eq_mapM_toList]
            simp only [Sem.run_map, hm, Result.andThen_ok]
          simp only [Instr.build, Sem.run_bind, run_zeroValue_of hi, Result.andThen_ok, run_underlying hi.und, hm']
          have e : (fun x : Nat => pl.toArray[x]?) = (fun x : Nat => pl[x]?) := by funext x; simp
          simp [e, h1]
      · cases h
    · cases h
  · cases h

/-! ### builtins that touch no memory -/
def alen (T : TypeId → Option TD) (t : TypeId) (x : AV) : Option AV :=
  match tk T t, x with
  | .str, .str s => some (.int .i64 s.length)
  | .slice _, .sl _ _ n _ => some (.int .i64 n)
  | .slice _, .nils => some (.int .i64 0)
  | .slice _, .emp => some (.int .i64 0)
  | .slice _, .lst n _ => some (.int .i64 n)
  | .slice _, .nul => some (.int .i64 0)
  | _, _ => none
def amin : List AV → Option AV
  | [.int k a, .int _ b] => some (.int k (if b < a then b else a))
  | _ => none
def amax : List AV → Option AV
  | [.int k a, .int _ b] => some (.int k (if b > a then b else a))
  | _ => none

theorem alen_run (hT : TOk P T) {t : TypeId} {x v : AV} (h : alen T t x = some v) {x' : Value} (hx : RV φ x x') (ty : TypeId) :
    ∃ u, RV φ v u ∧ ∀ w, (Builtin.len_ #[t] ty #[x']).run P w = .ok u w := by
  unfold alen at h
  split at h
  · rename_i s hk
    obtain ⟨d, i, u, z, hd, hdk, hi⟩ := tk_is hT hk (by simp)
    have hu : P.underlying t = some .string := by rw [hi.und, tkOf_str (hi.k.trans hdk)]
    simp only [Option.some.injEq] at h; subst h
    cases hx
    exact ⟨_, .int _ _, fun w => by simp [Builtin.len_, run_underlying hu, goInt, mk_size]⟩
  all_goals try (cases h; done)
  all_goals
    rename_i hk
    obtain ⟨d, i, u, z, hd, hdk, hi⟩ := tk_is hT hk (by simp)
    have hu := hi.und
    rw [tkOf_slice (hi.k.trans hdk)] at hu
    simp only [Option.some.injEq] at h; subst h
    cases hx <;> exact ⟨_, .int _ _, fun w => by simp [Builtin.len_, run_underlying hu, goInt]⟩

/-- All operations that touch no memory, but for calls. -/
def apure (T : TypeId → Option TD) (ev : Operand → AV) : Op → Option AV
  | .move x => some (ev x)
  | .assign x => some (ev x)
  | .pick c a b => match ev c with
    | .bool t => some (if t = true then ev a else ev b)
    | _ => none
  | .nilCheck x => anilCheck (ev x)
  | .binOp op t x y _ => abin T op t (ev x) (ev y)
  | .unOp op _ x => aun op (ev x)
  | .convert src dst x => aconv T src dst (ev x)
  | .makeFunc fn first caps => amakeFunc fn (first.toList.map ev) (caps.toList.map ev)
  | .fieldAddr s x f => afieldAddr T s (ev x) f
  | .field s x f => afield T s (ev x) f
  | .indexAddr t x i => aindexAddr T t (ev x) (ev i)
  | .index t x i => aindex T t (ev x) (ev i)
  | .extract x ix => aextract (ev x) ix
  | .build t parts => abuild T t (parts.toList.map fun p => (p.1, ev p.2))
  | .call ⟨.builtin .len, args, ts⟩ => match args.toList, ts.toList with
    | [x], [t] => alen T t (ev x)
    | _, _ => none
  | .call ⟨.builtin .min, args, _⟩ => amin (args.toList.map ev)
  | .call ⟨.builtin .max, args, _⟩ => amax (args.toList.map ev)
  | _ => none

theorem rvs_map {ev : Operand → AV} {ρ : Operand → Value} (hρ : ∀ x, RV φ (ev x) (ρ x)) (l : List Operand) : RVs φ (l.map ev) (l.map ρ) := by
  induction l with
  | nil => exact RVs.nil φ
  | cons x l ih => exact RVs.cons (hρ x) ih
theorem rvs_of_rv {l : List AV} {vs : Array Value} (h : RVs φ l vs.toList) : l.length = vs.size ∧ ∀ (i : Nat) a v, l[i]? = some a → vs[i]? = some v → RV φ a v :=
  ⟨by simpa using h.1, fun i a v ha hv => h.2 i a v ha (by simpa using hv)⟩

theorem andThen_assoc {α β γ : Type} (r : Result α) (f : α → World → Result β) (g : β → World → Result γ) : (r.andThen f).andThen g = r.andThen fun a w => (f a w).andThen g := by cases r <;> rfl
theorem apure_run (hT : TOk P T) {ev : Operand → AV} {ρ : Operand → Value} (hρ : ∀ x, RV φ (ev x) (ρ x)) (o : Oper) {v : AV} (h : apure T ev o.op = some v) :
    ∃ u, RV φ v u ∧ ∀ w, (execOp ρ o).run P w = .ok (.value u) w := by
  unfold apure at h
  split at h
  · rename_i x ho
    simp only [Option.some.injEq] at h; subst h
    exact ⟨_, hρ x, fun w => by simp [execOp, ho]⟩
  · rename_i x ho
    simp only [Option.some.injEq] at h; subst h
    exact ⟨_, hρ x, fun w => by simp [execOp, ho]⟩
  · rename_i c a b ho
    split at h
    · rename_i t hc
      simp only [Option.some.injEq] at h; subst h
      have hc' := hρ c
      rw [hc] at hc'
      have hcv : ρ c = .bool t := by generalize ρ c = q at hc'; cases hc'; rfl
      cases t
      · exact ⟨_, hρ b, fun w => by simp [execOp, ho, hcv, asBool]⟩
      · exact ⟨_, hρ a, fun w => by simp [execOp, ho, hcv, asBool]⟩
    · cases h
  · rename_i x ho
    have hx := hρ x
    unfold anilCheck at h
    split at h
    · rename_i b o' hb
      simp only [Option.some.injEq] at h; subst h
      rw [hb] at hx
      refine ⟨ρ x, hx, fun w => ?_⟩
      cases hx' : ρ x <;> rw [hx'] at hx <;> cases hx
      simp [execOp, ho, hx']
    · rename_i cs hb
      simp only [Option.some.injEq] at h; subst h
      rw [hb] at hx
      refine ⟨ρ x, hx, fun w => ?_⟩
      cases hx' : ρ x <;> rw [hx'] at hx <;> cases hx
      simp [execOp, ho, hx']
    · rename_i f a b hb
      simp only [Option.some.injEq] at h; subst h
      rw [hb] at hx
      refine ⟨ρ x, hx, fun w => ?_⟩
      cases hx' : ρ x <;> rw [hx'] at hx <;> cases hx
      simp [execOp, ho, hx']
    · cases h
  · rename_i op t x y _ ho
    obtain ⟨u, h1, h2⟩ := abin_run (P := P) hT op t _ _ v h (hρ x) (hρ y) x y
    refine ⟨u, h1, fun w => ?_⟩
    have := h2 w
    simp only [Sem.run_bind] at this
    simp only [execOp, ho, Sem.run_bind, ← andThen_assoc, this, Result.andThen_ok, Sem.run_pure]
  · rename_i op _ x ho
    obtain ⟨u, h1, h2⟩ := aun_run (P := P) op _ v h (hρ x)
    exact ⟨u, h1, fun w => by simp [execOp, ho, h2 w]⟩
  · rename_i src dst x ho
    obtain ⟨u, h1, h2⟩ := aconv_run (P := P) hT h (hρ x)
    exact ⟨u, h1, fun w => by simp [execOp, ho, h2 w]⟩
  · rename_i fn first caps ho
    unfold amakeFunc at h
    split at h
    · rename_i f
      simp only [Option.some.injEq] at h; subst h
      have h1 := rvs_of_rv (vs := first.map ρ) (by simpa using rvs_map hρ first.toList)
      have h2 := rvs_of_rv (vs := caps.map ρ) (by simpa using rvs_map hρ caps.toList)
      exact ⟨.func (.func f) (first.map ρ) (caps.map ρ), .fn f _ _ _ _ h1.1 h1.2 h2.1 h2.2, fun w => by simp [execOp, ho, Instr.makeFunc]⟩
    · cases h
  · rename_i s x f ho
    obtain ⟨u, h1, h2⟩ := afieldAddr_run (P := P) hT h (hρ x)
    exact ⟨u, h1, fun w => by simp [execOp, ho, h2 w]⟩
  · rename_i s x f ho
    obtain ⟨u, h1, h2⟩ := afield_run (P := P) hT h (hρ x)
    exact ⟨u, h1, fun w => by simp [execOp, ho, h2 w]⟩
  · rename_i t x i ho
    obtain ⟨u, h1, h2⟩ := aindexAddr_run (P := P) hT h (hρ x) (hρ i)
    exact ⟨u, h1, fun w => by simp [execOp, ho, h2 w]⟩
  · rename_i t x i ho
    obtain ⟨u, h1, h2⟩ := aindex_run (P := P) hT h (hρ x) (hρ i)
    exact ⟨u, h1, fun w => by simp [execOp, ho, h2 w]⟩
  · rename_i x ix ho
    obtain ⟨u, h1, h2⟩ := aextract_run (P := P) h (hρ x)
    exact ⟨u, h1, fun w => by simp [execOp, ho, h2 w]⟩
  · rename_i t parts ho
    obtain ⟨u, h1, h2⟩ := abuild_run (P := P) hT (φ := φ) h (ps := parts.map fun p => (p.1, ρ p.2)) (by simp [Function.comp_def]) (by
      simp only [List.map_map, Array.toList_map]
      exact rvs_map (ev := ev) hρ (parts.toList.map (·.2)) |> fun h => by simpa [Function.comp_def] using h)
    exact ⟨u, h1, fun w => by simp [execOp, ho, h2 w]⟩
  · rename_i args ts ho
    split at h
    · rename_i x t ha ht
      obtain ⟨u, h1, h2⟩ := alen_run (P := P) hT h (hρ x) o.type
      have ha' : args = #[x] := by apply Array.ext'; simpa using ha
      have ht' : ts = #[t] := by apply Array.ext'; simpa using ht
      subst ha'; subst ht'
      refine ⟨u, h1, fun w => ?_⟩
      simp [execOp, ho, resolve, invoke, builtin, h2 w]
    · cases h
  · rename_i args ts ho
    unfold amin at h
    split at h
    · rename_i k a k' b hl
      simp only [Option.some.injEq] at h; subst h
      obtain ⟨x, y, ha⟩ : ∃ x y, args.toList = [x, y] := by
        have := congrArg List.length hl
        match hargs : args.toList, this with
        | [x, y], _ => exact ⟨x, y, rfl⟩
      rw [ha] at hl
      simp only [List.map_cons, List.map_nil, List.cons.injEq, and_true] at hl
      have hx := hρ x; have hy := hρ y
      rw [hl.1] at hx; rw [hl.2] at hy
      have ex : ρ x = .int k a := by cases hx' : ρ x <;> rw [hx'] at hx <;> cases hx; rfl
      have ey : ρ y = .int k' b := by cases hy' : ρ y <;> rw [hy'] at hy <;> cases hy; rfl
      have ha' : args = #[x, y] := by apply Array.ext'; simpa using ha
      subst ha'
      exact ⟨_, .int _ _, fun w => by simp [execOp, ho, resolve, invoke, builtin, Builtin.min_, Builtin.min2, ex, ey]⟩
    · cases h
  · rename_i args ts ho
    unfold amax at h
    split at h
    · rename_i k a k' b hl
      simp only [Option.some.injEq] at h; subst h
      obtain ⟨x, y, ha⟩ : ∃ x y, args.toList = [x, y] := by
        have := congrArg List.length hl
        match hargs : args.toList, this with
        | [x, y], _ => exact ⟨x, y, rfl⟩
      rw [ha] at hl
      simp only [List.map_cons, List.map_nil, List.cons.injEq, and_true] at hl
      have hx := hρ x; have hy := hρ y
      rw [hl.1] at hx; rw [hl.2] at hy
      have ex : ρ x = .int k a := by cases hx' : ρ x <;> rw [hx'] at hx <;> cases hx; rfl
      have ey : ρ y = .int k' b := by cases hy' : ρ y <;> rw [hy'] at hy <;> cases hy; rfl
      have ha' : args = #[x, y] := by apply Array.ext'; simpa using ha
      subst ha'
      exact ⟨_, .int _ _, fun w => by simp [execOp, ho, resolve, invoke, builtin, Builtin.max_, Builtin.max2, ex, ey]⟩
    · cases h
  · cases h
end
end Go.Proofs.PI

