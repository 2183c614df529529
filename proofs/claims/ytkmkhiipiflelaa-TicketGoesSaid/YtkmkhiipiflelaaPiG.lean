import Derived.Test.YtkmkhiipiflelaaPiF
/-! PI, part G: new memory, stores. -/
set_option linter.unusedVariables false
set_option linter.unusedSimpArgs false
namespace Go.Proofs.PI
open Go.RowKit
section
variable {P : Program} {T : TypeId → Option TD} {φ : Ph} {base : Nat} {H : Heap} {w w' : World}

def reps (n : Nat) (z : List AV) : List AV := (List.replicate n z).flatten
theorem reps_get (n : Nat) (z : List AV) : ∀ i, i < n * z.length → (reps n z)[i]? = z[i % z.length]? := by
  induction n with
  | zero => intro i h; simp at h
  | succ n ih =>
    intro i h
    rw [reps, List.replicate_succ, List.flatten_cons]
    by_cases hi : i < z.length
    · rw [List.getElem?_append_left hi, Nat.mod_eq_of_lt hi]
    · rw [List.getElem?_append_right (by omega), ← reps, ih (i - z.length) (by rw [Nat.add_mul] at h; omega), Nat.mod_eq_sub_mod (show i ≥ z.length by omega)]
theorem reps_length (n : Nat) (z : List AV) : (reps n z).length = n * z.length := by simp [reps]
theorem reps_rvs {z : List AV} {c : Array Value} (h : RVs φ z c.toList) (n k : Nat) (hk : k = n * z.length) : RVs φ (reps n z) ((Array.range k).map (c[· % c.size]!)).toList := by
  subst hk
  have hs : c.size = z.length := by have := h.1; simp at this; exact this.symm
  refine ⟨by simp [reps_length], fun i a v ha hv => ?_⟩
  have hi : i < n * z.length := by have := (List.getElem?_eq_some_iff.1 ha).1; rwa [reps_length] at this
  have hz : 0 < z.length := by
    rcases Nat.eq_zero_or_pos z.length with h0 | h0
    · rw [h0] at hi; simp at hi
    · exact h0
  rw [reps_get n z i hi] at ha
  have hm : i % z.length < z.length := Nat.mod_lt _ hz
  simp only [Array.toList_map, List.getElem?_map, Array.toList_range, List.getElem?_range hi, Option.map_some, Option.some.injEq] at hv
  refine h.2 (i % z.length) a v ha ?_
  rw [hs] at hv
  rw [getElem!_pos c _ (by rw [hs]; exact hm)] at hv
  simp [Array.getElem?_toList, Array.getElem?_eq_getElem (show i % z.length < c.size by rw [hs]; exact hm), hv]

def azero (T : TypeId → Option TD) (t : TypeId) : Option (List AV) :=
  match T t with
  | some d => if d.zero.length = d.size ∧ d.zero.all AV.one = true then some d.zero else none
  | none => none
theorem azero_is (hT : TOk P T) {t : TypeId} {zs : List AV} (h : azero T t = some zs) : ∃ i z, P.info? t = some i ∧ i.zero = some z ∧ i.size = zs.length ∧ (∀ φ, RVs φ zs z.cells.toList) ∧ (∀ a ∈ zs, a.one = true) ∧ asize T t = some zs.length := by
  unfold azero at h
  split at h
  · rename_i d hd
    obtain ⟨i, u, z, hi⟩ := tdOf_is (hT t d hd)
    split at h
    · rename_i hc
      simp only [Option.some.injEq] at h; subst h
      refine ⟨i, z, hi.info, hi.zero, hi.size.trans hc.1.symm, fun φ => by rw [← hi.zeros]; exact RVs.cav1s φ _, by simpa using hc.2, by simp [asize, hd, hc.1]⟩
    · cases h
  · cases h

/-- New blocks. -/
def aalloc (T : TypeId → Option TD) (ev : Operand → AV) : Op → Option (Blk × (Nat → AV))
  | .alloc e => (azero T e).map fun z => (⟨z, 0, .full⟩, fun s => .ptr s 0)
  | .box e x => if (ev x).solid = true then some (⟨(ev x).cells, 0, .full⟩, fun s => .ptr s 0) else none
  | .buildSlice t len parts => match asliceElem T t with
    | some (e, sz) => match azero T e with
      | some z => if len ≤ 16777216 ∧ len * sz ≤ 16777216 then
          match apartsFill (fun i => some (i * sz, sz)) (reps len z) (parts.toList.map fun p => (p.1, ev p.2)) with
          | some cs => if cs.all AV.one = true then some (⟨cs, sz, .full⟩, fun s => .sl s 0 len none) else none
          | none => none
        else none
      | none => none
    | none => none
  | .makeSlice t l c => match asliceElem T t, ev l, ev c with
    | some (e, sz), .int _ l, .int _ c => match azero T e, T e with
      | some z, some d => if 0 ≤ l ∧ l ≤ c ∧ c ≤ 140737488355328 ∧ (d.bytes : Int) * c ≤ 140737488355328 then some (⟨reps c.toNat z, sz, .full⟩, fun s => .sl s 0 l.toNat none) else none
      | _, _ => none
    | _, _, _ => none
  | .convert src dst x => match tk T src, asliceElem T dst, ev x with
    | .str, some (e, 1), .str s => match tk T e with
      | .int .u8 => if s.length ≤ 140737488355328 then some (⟨s.map fun b => .int .u8 b.toNat, 1, .opn⟩, fun i => .sl i 0 s.length none) else none
      | _ => none
    | _, _, _ => none
  | _ => none

theorem catch_new (hR : Rel base φ H w) {s : Nat} {B : Blk} (hs : H[s]? = some B) (hun : φ s = none) (hst : B.st.own = true) {w1 : World} (hw1 : ∀ k, k < w.heap.size → w1.heap[k]? = w.heap[k]?) (hsz : w1.heap.size = w.heap.size)
    {c : Array Value} {e : TypeId} {fz : Nat × Nat} {vs : List Value} (hcs : RVs φ B.cells vs) (h1 : ∀ a ∈ B.cells, a.one = true) (hc : ∀ (i : Nat) v, vs[i]? = some v → c[i]? = some v) (hlen : B.cells.length ≤ c.size) (hfull : B.st = .full → B.cells.length = c.size ∧ ¬ (fz.1 ≤ c.size ∧ c.size < fz.2))
    (hfz : ∀ i, i < c.size → ¬ (fz.1 ≤ i ∧ i < fz.2)) (hbb : Below base w w1) :
    Rel base (upd φ s ⟨w.heap.size, 0, c.size, B.esz, true⟩) H (w1.alloc (.cells c e fz)) ∧ Below base w (w1.alloc (.cells c e fz)) := by
  have hheap : ∀ k, k < w.heap.size → (w1.alloc (.cells c e fz)).heap[k]? = w.heap[k]? := fun k hk => by
    rw [Below.heap_alloc _ _ _ (by omega)]; exact hw1 k hk
  refine ⟨hR.catch hs hun hst hheap (L := ⟨w.heap.size, 0, c.size, B.esz, true⟩) (Nat.le_refl _) (by simp; omega) ?_, hbb.alloc (by have := hR.size; omega) _⟩
  refine (BlkRel.own_iff hst).2 ⟨rfl, hR.size, rfl, c, e, fz, ?_, by simp, hlen, hfull, hfz, fun i a ha => ?_⟩
  · have := heap_alloc_new w1 (.cells c e fz)
    rwa [hsz] at this
  · obtain ⟨v, hv, hr⟩ := hcs.getD i ha
    refine ⟨h1 a (List.mem_of_getElem? ha), v, ?_, hr.mono (upd_sub _ hun)⟩
    simpa using hc i v hv

theorem aalloc_run (hT : TOk P T) {ev : Operand → AV} {ρ : Operand → Value} (hρ : ∀ x, RV φ (ev x) (ρ x)) (o : Oper) {B : Blk} {mk : Nat → AV} (h : aalloc T ev o.op = some (B, mk))
    (hR : Rel base φ H w) {s : Nat} (hs : H[s]? = some B) (hun : φ s = none) :
    ∃ u w' L, (execOp ρ o).run P w = .ok (.value u) w' ∧ Rel base (upd φ s L) H w' ∧ RV (upd φ s L) (mk s) u ∧ Below base w w' := by
  unfold aalloc at h
  split at h
  · rename_i e ho
    cases hz : azero T e with
    | none => rw [hz] at h; cases h
    | some z =>
      rw [hz] at h
      simp only [Option.map_some, Option.some.injEq, Prod.mk.injEq] at h
      obtain ⟨rfl, rfl⟩ := h
      obtain ⟨i, zv, h1, h2, h3, h4, h5, h6⟩ := azero_is hT hz
      have hl : z.length = zv.cells.size := by have := (h4 φ).1; simpa using this
      have := catch_new hR hs hun rfl (w1 := w) (fun _ _ => rfl) rfl (c := zv.cells) (e := e) (fz := (0, 0)) (vs := zv.cells.toList) (h4 φ) h5 (fun i v hv => by simpa using hv) (Nat.le_of_eq hl) (fun _ => ⟨hl, by simp⟩) (fun i hi => by simp) (Below.refl _ _)
      refine ⟨_, _, _, ?_, this.1, .ptr s 0 _ (upd_same ..), this.2⟩
      simp [execOp, ho, Instr.alloc, zeroValue, typeInfo, h1, h2, newVar, newRow]
  · rename_i e x ho
    split at h
    · rename_i hsol
      simp only [Option.some.injEq, Prod.mk.injEq] at h
      obtain ⟨rfl, rfl⟩ := h
      have hc := (hρ x).cells hsol
      have hl : (ev x).cells.length = (ρ x).cells.size := by have := hc.1.1; simpa using this
      have hone : ∀ a ∈ (ev x).cells, a.one = true := fun a ha => by
        cases hx : ev x with
        | agg l => rw [hx] at hsol ha; simp only [AV.solid, List.all_eq_true] at hsol; exact hsol a ha
        | tup l => rw [hx] at hsol; cases hsol
        | junk => rw [hx] at hsol; cases hsol
        | _ => rw [hx] at ha; simp only [AV.cells, List.mem_singleton] at ha; subst ha; rfl
      have := catch_new hR hs hun rfl (w1 := w) (fun _ _ => rfl) rfl (c := (ρ x).cells) (e := e) (fz := (0, 0)) (vs := (ρ x).cells.toList) hc.1 hone (fun i v hv => by simpa using hv) (Nat.le_of_eq hl) (fun _ => ⟨hl, by simp⟩) (fun i hi => by simp) (Below.refl _ _)
      refine ⟨_, _, _, ?_, this.1, .ptr s 0 _ (upd_same ..), this.2⟩
      simp [execOp, ho, Instr.box, newVar, newRow]
    · cases h
  · rename_i t len parts ho
    split at h
    · rename_i e sz he
      obtain ⟨hu, hsz⟩ := asliceElem_is hT he
      split at h
      · rename_i z hz
        obtain ⟨i, zv, h1, h2, h3, h4, h5, h6⟩ := azero_is hT hz
        have hzs : sz = z.length := by rw [h6] at hsz; simpa using hsz.symm
        subst hzs
        split at h
        · rename_i h24
          split at h
          · rename_i cs hfill
            split at h
            · rename_i hone
              simp only [Option.some.injEq, Prod.mk.injEq] at h
              obtain ⟨rfl, rfl⟩ := h
              have hzsz : zv.cells.size = z.length := by have := (h4 φ).1; simp at this; exact this.symm
              have hreps := reps_rvs (h4 φ) len (len * z.length) rfl
              obtain ⟨us, g1, g2⟩ := apartsFill_run (fun i => some (i * z.length, z.length)) hfill (vs := (Array.range (len * z.length)).map (zv.cells[· % zv.cells.size]!)) hreps (ps := parts.toList.map fun p => (p.1, ρ p.2)) (by simp [Function.comp_def]) (by
                simp only [List.map_map]
                exact rvs_map (ev := ev) hρ (parts.toList.map (·.2)) |> fun h => by simpa [Function.comp_def] using h)
              have hl : cs.length = us.size := by have := g2.1; simpa using this
              have := catch_new hR hs hun rfl (w1 := w) (fun _ _ => rfl) rfl (c := us) (e := e) (fz := (0, 0)) (vs := us.toList) g2 (by simpa using hone) (fun i v hv => by simpa using hv) (Nat.le_of_eq hl) (fun _ => ⟨hl, by simp⟩) (fun i hi => by simp) (Below.refl _ _)
              have hlen : cs.length = len * z.length := by
                have key : ∀ (ps : List (Nat × AV)) (cells out : List AV), apartsFill (fun i => some (i * z.length, z.length)) cells ps = some out → out.length = cells.length := by
                  intro ps
                  induction ps with
                  | nil => intro cells out h; simp only [apartsFill, Option.some.injEq] at h; subst h; rfl
                  | cons p ps ih =>
                    intro cells out h
                    simp only [apartsFill] at h
                    split at h
                    · rw [ih _ _ h, wr_length]
                    · cases h
                rw [key _ _ _ hfill, reps_length]
              refine ⟨.slice (some ⟨w.heap.size, 0, none⟩) len len, _, _, ?_, this.1, .sl s 0 len none _ len (upd_same ..) ⟨Nat.le_refl _, ?_, fun _ => by simp; omega⟩, this.2⟩
              · have h24' : ¬ (16777216 < len * z.length) := by have := h24.2; omega
                have er : Array.range 0 = #[] := rfl
                by_cases hk : len * z.length = 0
                · have g1z : Instr.fill (fun i => some (i * z.length, z.length)) #[] (parts.toList.map fun p => (p.1, ρ p.2)) = some us := by
                    rw [hk, er] at g1; simpa using g1
                  simp [execOp, ho, Instr.buildSlice, run_underlying hu, asize_run hT hsz, h24', hk, er, g1z, newRow]
                · simp [execOp, ho, Instr.buildSlice, run_underlying hu, asize_run hT hsz, h24', hk, zeroValue, typeInfo, h1, h2, g1, newRow]
              · have := h24.1; simp only [maxLen]; omega
            · cases h
          · cases h
        · cases h
      · cases h
    · cases h
  · rename_i t l c ho
    split at h
    · rename_i e sz kl l' kc c' he hl hc
      obtain ⟨hu, hsz⟩ := asliceElem_is hT he
      split at h
      · rename_i z d hz hd
        obtain ⟨i, zv, h1, h2, h3, h4, h5, h6⟩ := azero_is hT hz
        obtain ⟨i', u', z', hi'⟩ := tdOf_is (hT e d hd)
        have hzs : sz = z.length := by rw [h6] at hsz; simpa using hsz.symm
        subst hzs
        split at h
        · rename_i hcc
          obtain ⟨c1, c2, c3, c4⟩ := hcc
          simp only [Option.some.injEq, Prod.mk.injEq] at h
          obtain ⟨rfl, rfl⟩ := h
          have el : ρ l = .int kl l' := by have := hρ l; rw [hl] at this; generalize ρ l = q at this; cases this; rfl
          have ec : ρ c = .int kc c' := by have := hρ c; rw [hc] at this; generalize ρ c = q at this; cases this; rfl
          have hb : (i.bytes : Int) * c' ≤ 281474976710656 := by
            have : i.bytes = d.bytes := by
              have := hi'.info; rw [h1] at this; cases this; exact hi'.bytes
            rw [this]; omega
          have hrun := run_make (P := P) w t e i zv hu h1 h2 kl kc l' c' c1 c2 hb (by omega)
          have hk : c'.toNat * i.size = c'.toNat * z.length := by rw [h3]
          have hreps := reps_rvs (h4 φ) c'.toNat (c'.toNat * i.size) hk
          have hl2 : (reps c'.toNat z).length = (madeCells zv.cells (c'.toNat * i.size)).size := by have := hreps.1; simpa [madeCells] using this
          have hone : ∀ a ∈ reps c'.toNat z, a.one = true := fun a ha => by
            simp only [reps, List.mem_flatten, List.mem_replicate] at ha
            obtain ⟨m, ⟨_, rfl⟩, ha⟩ := ha
            exact h5 a ha
          have := catch_new hR hs hun rfl (w1 := w) (fun _ _ => rfl) rfl (c := madeCells zv.cells (c'.toNat * i.size)) (e := e) (fz := (0, 0)) (vs := (madeCells zv.cells (c'.toNat * i.size)).toList) hreps hone (fun i v hv => by simpa using hv) (Nat.le_of_eq hl2) (fun _ => ⟨hl2, by simp⟩) (fun i hi => by simp) (Below.refl _ _)
          refine ⟨.slice (some ⟨w.heap.size, 0, none⟩) l'.toNat c'.toNat, _, _, ?_, this.1, .sl s 0 l'.toNat none _ c'.toNat (upd_same ..) ⟨by omega, by simp only [maxLen]; omega, fun _ => ?_⟩, this.2⟩
          · simp [execOp, ho, el, ec, hrun]
          · simp only [Nat.zero_add, ← hl2, reps_length]
        · cases h
      · cases h
    · cases h
  · rename_i src dst x ho
    split at h
    · rename_i e st hk he hx
      obtain ⟨hu, hsz⟩ := asliceElem_is hT he
      obtain ⟨d, i, u, z, hd, hdk, hi⟩ := tk_is hT hk (by simp)
      have hsrc : P.underlying src = some .string := by rw [hi.und, tkOf_str (hi.k.trans hdk)]
      split at h
      · rename_i hke
        obtain ⟨d', i', u', z', hd', hdk', hi'⟩ := tk_is hT hke (by simp)
        have hel : P.underlying e = some (.int .u8) := by rw [hi'.und, tkOf_int (hi'.k.trans hdk')]
        split at h
        · rename_i hlen
          simp only [Option.some.injEq, Prod.mk.injEq] at h
          obtain ⟨rfl, rfl⟩ := h
          have ex : ρ x = .string ⟨st.toArray⟩ := by have := hρ x; rw [hx] at this; generalize ρ x = q at this; cases this; rfl
          have hrun := run_bytes_of_string (P := P) w src dst e ⟨st.toArray⟩ hsrc hu hel
          rw [mk_size] at hrun
          have hge := grownCap_ge w st.length 0 e
          have hle := grownCap_le_maxLen w st.length 0 e (by simp only [maxLen]; omega)
          generalize hcap : grownCap w st.length 0 e = cap at hrun hge hle
          have hsize : (bytesRow ⟨st.toArray⟩ cap).size = cap := by simp [bytesRow, mk_size]; omega
          have hcs : RVs φ (st.map fun b => AV.int .u8 b.toNat) (st.map fun b => Value.int .u8 b.toNat) :=
            ⟨by simp, fun i a v ha hv => by
              rw [List.getElem?_map] at ha hv
              cases hb : st[i]? with
              | none => rw [hb] at ha; cases ha
              | some b => rw [hb] at ha hv; simp at ha hv; subst ha; subst hv; exact .int _ _⟩
          have := catch_new hR hs hun rfl (w1 := w.drew) (fun _ _ => rfl) rfl (c := bytesRow ⟨st.toArray⟩ cap) (e := e) (fz := ((bytesRow ⟨st.toArray⟩ cap).size, (bytesRow ⟨st.toArray⟩ cap).size + 1)) (vs := st.map fun b => Value.int .u8 b.toNat) hcs
            (fun a ha => by simp only [List.mem_map] at ha; obtain ⟨b, _, rfl⟩ := ha; rfl) (fun i v hv => by
              have hi : i < st.length := by have := (List.getElem?_eq_some_iff.1 hv).1; simpa using this
              simp only [bytesRow]
              rw [Array.getElem?_append_left (by simpa using hi)]
              simpa using hv) (by rw [hsize]; simpa using hge) (fun h => by cases h) (fun i hi => by simp; omega) (Below.refl _ _).drew
          refine ⟨.slice (some ⟨w.heap.size, 0, none⟩) st.length cap, _, _, ?_, this.1, .sl s 0 st.length none _ cap (upd_same ..) ⟨hge, hle, fun _ => by simp [hsize]⟩, this.2⟩
          simp [execOp, ho, ex, hrun]
        · cases h
      · cases h
    · cases h
  · cases h

/-! ### Stores -/
def astore (T : TypeId → Option TD) (H : Heap) (t : TypeId) (x v : AV) : Option Heap :=
  match x, asize T t with
  | .ptr b o, some n => match H[b]? with
    | some B => if B.st.own = true ∧ v.solid = true ∧ v.cells.length = n ∧ o + v.cells.length ≤ B.cells.length then some (H.set b ⟨wr B.cells o v.cells, B.esz, B.st⟩) else none
    | none => none
  | _, _ => none
theorem solid_cells_one {v : AV} (hsol : v.solid = true) : ∀ a ∈ v.cells, a.one = true := fun a ha => by
  cases hx : v with
  | agg l => rw [hx] at hsol ha; simp only [AV.solid, List.all_eq_true] at hsol; exact hsol a ha
  | tup l => rw [hx] at hsol; cases hsol
  | junk => rw [hx] at hsol; cases hsol
  | _ => rw [hx] at ha; simp only [AV.cells, List.mem_singleton] at ha; subst ha; rfl
theorem own_cells (hR : Rel base φ H w) {b : Nat} {B : Blk} {L : Loc} (hB : H[b]? = some B) (hL : φ b = some L) (hst : B.st.own = true) : base ≤ L.r ∧ ∀ j, j < B.cells.length → (w.cell? ⟨L.r, L.o + j, none⟩).isSome = true ∧ w.frozen? ⟨L.r, L.o + j, none⟩ = false := by
  obtain ⟨_, g2, _, c, e, fz, g4, g5, g6, _, g8, _⟩ := (BlkRel.own_iff hst).1 (hR.blk b B L hB hL)
  refine ⟨g2, fun j hj => ⟨?_, ?_⟩⟩
  · simp only [World.cell?, g4]
    rw [Array.getElem?_eq_getElem (show L.o + j < c.size by omega)]
    rfl
  · have := g8 (L.o + j) (by omega)
    simp only [World.frozen?, g4, Bool.and_eq_false_iff, decide_eq_false_iff_not]
    omega
theorem astore_run (hT : TOk P T) (hR : Rel base φ H w) {t : TypeId} {x v : AV} {H' : Heap} (h : astore T H t x v = some H') {x' v' : Value} (hx : RV φ x x') (hv : RV φ v v') :
    ∃ w', (Instr.storeAt t x' v').run P w = .ok () w' ∧ Rel base φ H' w' ∧ Below base w w' := by
  unfold astore at h
  split at h
  · rename_i b o n hn
    split at h
    · rename_i B hB
      split at h
      · rename_i hc
        obtain ⟨h1, h2, h3, h4⟩ := hc
        simp only [Option.some.injEq] at h; subst h
        cases hx
        rename_i L hL
        have hcs := hv.cells h2
        have hlen : v'.cells.size = v.cells.length := by have := hcs.1.1; simpa using this.symm
        obtain ⟨hbase, hcell⟩ := own_cells hR hB hL h1
        have hst := run_storeCells_cells (P := P) L.r (L.o + o) v'.cells.toList 0 w (fun j hj => by
            have := (hcell (o + j) (by simp at hj; omega)).1
            rwa [show L.o + o + 0 + j = L.o + (o + j) by omega]) (fun j hj => by
            have := (hcell (o + j) (by simp at hj; omega)).2
            rwa [show L.o + o + 0 + j = L.o + (o + j) by omega]) hcs.2
        rw [Nat.add_zero] at hst
        refine ⟨_, ?_, hR.write hB hL h1 hcs.1 (solid_cells_one h2) h4, setCells_below _ _ _ hbase _ _⟩
        simp [Instr.storeAt, Instr.sureAddr, storeVar, asize_run hT hn, hlen, h3, hst]
      · cases h
    · cases h
  · cases h
/-! ### Cells set to zero -/
def aclear (T : TypeId → Option TD) (H : Heap) (t : TypeId) (x : AV) : Option Heap :=
  match asliceElem T t with
  | some (e, sz) => match x with
    | .nils => some H
    | .emp => some H
    | .nul => some H
    | .sl b o len _ => if len = 0 then some H else match azero T e, H[b]? with
      | some z, some B => if B.st.own = true ∧ o + len * sz ≤ B.cells.length then some (H.set b ⟨wr B.cells o (reps len z), B.esz, B.st⟩) else none
      | _, _ => none
    | _ => none
  | none => none
theorem aclear_len {T : TypeId → Option TD} {H H' : Heap} {t : TypeId} {x : AV} (h : aclear T H t x = some H') : H.length = H'.length := by
  unfold aclear at h
  split at h
  · split at h
    · simp only [Option.some.injEq] at h; rw [h]
    · simp only [Option.some.injEq] at h; rw [h]
    · simp only [Option.some.injEq] at h; rw [h]
    · split at h
      · simp only [Option.some.injEq] at h; rw [h]
      · split at h
        · split at h
          · simp only [Option.some.injEq] at h; rw [← h]; simp
          · cases h
        · cases h
    · cases h
  · cases h
theorem reps_mem {n : Nat} {z : List AV} {a : AV} (h : a ∈ reps n z) : a ∈ z := by
  unfold reps at h
  obtain ⟨l, h1, h2⟩ := List.mem_flatten.1 h
  rw [(List.mem_replicate.1 h1).2] at h2; exact h2
theorem aclear_run (hT : TOk P T) (hR : Rel base φ H w) {t : TypeId} {x : AV} {H' : Heap} (h : aclear T H t x = some H') {x' : Value} (hx : RV φ x x') (ty : TypeId) :
    ∃ w', (Builtin.clear_ #[t] ty #[x']).run P w = .ok (.tuple #[]) w' ∧ Rel base φ H' w' ∧ Below base w w' := by
  unfold aclear at h
  split at h
  · rename_i e sz he
    obtain ⟨hu, hsz⟩ := asliceElem_is hT he
    split at h
    · simp only [Option.some.injEq] at h; subst h; cases hx
      exact ⟨w, by simp [Builtin.clear_, run_underlying hu], hR, Below.refl _ _⟩
    · simp only [Option.some.injEq] at h; subst h; cases hx
      exact ⟨w, by simp [Builtin.clear_, run_underlying hu], hR, Below.refl _ _⟩
    · simp only [Option.some.injEq] at h; subst h; cases hx
      rename_i q
      exact ⟨w, by cases q <;> simp [Builtin.clear_, run_underlying hu], hR, Below.refl _ _⟩
    · rename_i b o len cap
      cases hx
      rename_i L c hL hcap
      split at h
      · rename_i h0
        simp only [Option.some.injEq] at h; subst h; subst h0
        exact ⟨w, by simp [Builtin.clear_, run_underlying hu], hR, Below.refl _ _⟩
      · rename_i h0
        split at h
        · rename_i z B hz hB
          split at h
          · rename_i hc
            obtain ⟨h1, h2⟩ := hc
            simp only [Option.some.injEq] at h; subst h
            obtain ⟨i, zv, k1, k2, k3, k4, k5, k6⟩ := azero_is hT hz
            have hszz : sz = z.length := by rw [hsz] at k6; simpa using k6
            have hzc := (k4 φ)
            have hzl : zv.cells.size = z.length := by have := hzc.1; simpa using this.symm
            have hrv : RVs φ (reps len z) (Builtin.zeroCells zv.cells len).toList := reps_rvs hzc len _ (by rw [hzl])
            obtain ⟨hbase, hcell⟩ := own_cells hR hB hL h1
            have hl : (Builtin.zeroCells zv.cells len).toList.length = len * sz := by rw [← hrv.1, reps_length, hszz]
            have hone : ∀ u ∈ (Builtin.zeroCells zv.cells len).toList, u.oneCell' = true := fun u hu' => by
              obtain ⟨j, hj, rfl⟩ := List.getElem_of_mem hu'
              have hj' : j < (reps len z).length := by rw [hrv.1]; exact hj
              have hjv := hrv.2 j (reps len z)[j] _ (List.getElem?_eq_getElem hj') (List.getElem?_eq_getElem hj)
              exact (hjv.one (k5 _ (reps_mem (List.getElem_mem hj')))).1
            have hst := run_storeCells_cells (P := P) L.r (L.o + o) (Builtin.zeroCells zv.cells len).toList 0 w (fun j hj => by
                have := (hcell (o + j) (by rw [hl] at hj; omega)).1
                rwa [show L.o + o + 0 + j = L.o + (o + j) by omega]) (fun j hj => by
                have := (hcell (o + j) (by rw [hl] at hj; omega)).2
                rwa [show L.o + o + 0 + j = L.o + (o + j) by omega]) hone
            rw [Nat.add_zero] at hst
            refine ⟨_, ?_, hR.write hB hL h1 hrv (fun a ha => k5 _ (reps_mem ha)) (by rw [reps_length, ← hszz]; exact h2), setCells_below _ _ _ hbase _ _⟩
            obtain ⟨len', rfl⟩ : ∃ m, len = m + 1 := ⟨len - 1, by omega⟩
            simp [Builtin.clear_, run_underlying hu, zeroValue, typeInfo, k1, k2, hst]
          · cases h
        · cases h
    · cases h
  · cases h
end
end Go.Proofs.PI

