import Derived.Test.YtkmkhiipiflelaaPiE
/-! PI, part F: the operations that read memory, make it, write it. -/
set_option linter.unusedVariables false
set_option linter.unusedSimpArgs false
namespace Go.Proofs.PI
open Go.RowKit
section
variable {P : Program} {T : TypeId → Option TD} {φ : Ph} {base : Nat} {H : Heap} {w w' : World}

theorem read_list (l : List AV) : ∀ (f : Nat → Option Value), (∀ (i : Nat) a, l[i]? = some a → a.one = true ∧ ∃ v, f i = some v ∧ RV φ a v) →
    ∃ vs : List Value, RVs φ l vs ∧ (∀ (j : Nat) v, vs[j]? = some v → f j = some v) ∧ ∀ v ∈ vs, v.oneCell' = true := by
  induction l with
  | nil => intro f h; exact ⟨[], RVs.nil φ, fun j v h => by simp at h, by simp⟩
  | cons a l ih =>
    intro f h
    obtain ⟨h1, v, hv, hr⟩ := h 0 a rfl
    obtain ⟨vs, k1, k2, k3⟩ := ih (fun i => f (i + 1)) (fun i b hb => h (i + 1) b (by simpa using hb))
    refine ⟨v :: vs, RVs.cons hr k1, fun j u hu => ?_, fun u hu => ?_⟩
    · cases j with
      | zero => simp at hu; subst hu; exact hv
      | succ j => exact k2 j u (by simpa using hu)
    · simp only [List.mem_cons] at hu
      rcases hu with rfl | hu
      · exact (hr.one h1).1
      · exact k3 u hu

/-- Cells of a block, as they are read. -/
def Heap.read (H : Heap) (b o n : Nat) : Option (List AV) :=
  match H[b]? with
  | some B => if B.st.alive = true ∧ o + n ≤ B.cells.length then some ((B.cells.drop o).take n) else none
  | none => none
theorem read_length {H : Heap} {b o n : Nat} {l : List AV} (h : H.read b o n = some l) : l.length = n := by
  unfold Heap.read at h
  split at h
  · split at h
    · rename_i hc; simp only [Option.some.injEq] at h; subst h; simp; omega
    · cases h
  · cases h
theorem Rel.read (hR : Rel base φ H w) {b o n : Nat} {l : List AV} (h : H.read b o n = some l) {L : Loc} (hL : φ b = some L) :
    (∀ a ∈ l, a.one = true) ∧ ∃ vs : List Value, RVs φ l vs ∧ (∀ (j : Nat) v, vs[j]? = some v → w.cell? ⟨L.r, L.o + o + j, none⟩ = some v) ∧ ∀ v ∈ vs, v.oneCell' = true := by
  unfold Heap.read at h
  split at h
  · rename_i B hB
    split at h
    · rename_i hc
      simp only [Option.some.injEq] at h; subst h
      have hrel := hR.blk b B L hB hL
      have key : ∀ (i : Nat) a, ((B.cells.drop o).take n)[i]? = some a → a.one = true ∧ ∃ v, w.cell? ⟨L.r, L.o + o + i, none⟩ = some v ∧ RV φ a v := fun i a ha => by
        rw [List.getElem?_take] at ha
        split at ha
        · rw [List.getElem?_drop] at ha
          have := hrel.read hc.1 ha
          rwa [← Nat.add_assoc] at this
        · cases ha
      refine ⟨fun a ha => ?_, read_list _ (fun i => w.cell? ⟨L.r, L.o + o + i, none⟩) key⟩
      obtain ⟨i, hi, rfl⟩ := List.getElem_of_mem ha
      exact (key i _ (List.getElem?_eq_getElem hi)).1
    · cases h
  · cases h

/-! ### Loads -/
def aload (T : TypeId → Option TD) (H : Heap) (t : TypeId) (x : AV) : Option AV :=
  match x, T t with
  | .ptr b o, some d => match d.k.isAgg with
    | some true => (H.read b o d.size).map .agg
    | some false => match H.read b o 1 with
      | some [v] => some v
      | _ => none
    | none => none
  | .cptr cs, some d => match d.k.isAgg with
    | some true => if d.size ≤ cs.length then some (.agg (cs.take d.size)) else none
    | some false => cs[0]?
    | none => none
  | _, _ => none
theorem Rel.fzRead (hR : Rel base φ H w) {cs : List AV} {r o : Nat} {z : List Value} (h : φ.fz r = some z) (hl : o + cs.length ≤ z.length) (h1 : ∀ a ∈ cs, a.one = true)
    (hx : ∀ (i : Nat) a v, cs[i]? = some a → z[o + i]? = some v → RV φ.bare a v) :
    ∃ vs : List Value, RVs φ cs vs ∧ (∀ (j : Nat) v, vs[j]? = some v → w.cell? ⟨r, o + j, none⟩ = some v) ∧ ∀ v ∈ vs, v.oneCell' = true := by
  refine read_list _ (fun i => w.cell? ⟨r, o + i, none⟩) fun i a ha => ⟨h1 a (List.mem_of_getElem? ha), ?_⟩
  have hi := (List.getElem?_eq_some_iff.1 ha).1
  have hv : z[o + i]? = some (z[o + i]'(by omega)) := List.getElem?_eq_getElem _
  exact ⟨_, (hR.fzOk r z h).2 _ _ hv, (hx i a _ ha hv).mono (Ph.bare_le φ)⟩
theorem aload_run (hT : TOk P T) (hR : Rel base φ H w) {t : TypeId} {x v : AV} (h : aload T H t x = some v) {x' : Value} (hx : RV φ x x') :
    ∃ u, RV φ v u ∧ (Instr.loadAt t x').run P w = .ok u w := by
  unfold aload at h
  split at h
  · rename_i b o d hd
    obtain ⟨i, ud, z, hi⟩ := tdOf_is (hT t d hd)
    cases hx
    rename_i L hL
    split at h
    · rename_i ha
      cases hr : H.read b o d.size with
      | none => rw [hr] at h; cases h
      | some l =>
        rw [hr] at h
        simp only [Option.map_some, Option.some.injEq] at h; subst h
        obtain ⟨_, vs, h1, h2, h3⟩ := hR.read hr hL
        refine ⟨.agg vs.toArray, RV.agg_iff.2 ⟨_, rfl, by simpa using h1⟩, ?_⟩
        have hl := run_loadCells_list (P := P) w ⟨L.r, L.o + o, none⟩ vs (fun j u hu => by rw [addr_add]; exact h2 j u hu)
        rw [show vs.length = d.size from h1.1.symm.trans (read_length hr)] at hl
        simp [Instr.loadAt, Instr.sureAddr, loadVar, run_isAgg_of hi ha, run_sizeOf_of hi, hl]
    · rename_i ha
      split at h
      · rename_i v' hr
        simp only [Option.some.injEq] at h; subst h
        obtain ⟨_, vs, h1, h2, h3⟩ := hR.read hr hL
        obtain ⟨u, us, rfl, h4, h5⟩ := h1.cons_left
        refine ⟨u, h4, ?_⟩
        have := h2 0 u rfl
        rw [Nat.add_zero] at this
        simp [Instr.loadAt, Instr.sureAddr, loadVar, run_isAgg_of hi ha, this]
      · cases h
    · cases h
  · rename_i cs d hd
    obtain ⟨i, ud, z, hi⟩ := tdOf_is (hT t d hd)
    cases hx
    rename_i r o fz hz hl h1 hx
    obtain ⟨vs, k1, k2, k3⟩ := hR.fzRead hz hl h1 hx
    split at h
    · rename_i ha
      split at h
      · rename_i hle
        simp only [Option.some.injEq] at h; subst h
        refine ⟨.agg (vs.take d.size).toArray, RV.agg_iff.2 ⟨_, rfl, by simpa using k1.take d.size⟩, ?_⟩
        have hl := run_loadCells_list (P := P) w ⟨r, o, none⟩ (vs.take d.size) (fun j u hu => by
          rw [addr_add]; refine k2 j u ?_
          rw [List.getElem?_take] at hu
          split at hu
          · exact hu
          · cases hu)
        rw [show (vs.take d.size).length = d.size by rw [List.length_take, ← k1.1]; omega] at hl
        simp [Instr.loadAt, Instr.sureAddr, loadVar, run_isAgg_of hi ha, run_sizeOf_of hi, hl]
      · cases h
    · rename_i ha
      obtain ⟨u, hu, hr⟩ := k1.getD 0 h
      refine ⟨u, hr, ?_⟩
      have := k2 0 u hu
      rw [Nat.add_zero] at this
      simp [Instr.loadAt, Instr.sureAddr, loadVar, run_isAgg_of hi ha, this]
    · cases h
  · cases h

/-! ### Bytes to a string -/
def abytes : List AV → Option (List UInt8)
  | [] => some []
  | .int .u8 n :: l => (abytes l).map (UInt8.ofNat n.toNat :: ·)
  | _ :: _ => none
theorem abytes_is {l : List AV} {s : List UInt8} (h : abytes l = some s) {vs : List Value} (hv : RVs φ l vs) : ∃ ns : List Int, vs = ns.map (Value.int .u8) ∧ s = ns.map fun n => UInt8.ofNat n.toNat := by
  induction l generalizing s vs with
  | nil => simp only [abytes, Option.some.injEq] at h; subst h; obtain rfl := hv.nil_left; exact ⟨[], rfl, rfl⟩
  | cons a l ih =>
    unfold abytes at h
    split at h
    · cases h; rename_i heq; cases heq
    · rename_i n l' heq
      simp only [List.cons.injEq] at heq
      obtain ⟨rfl, rfl⟩ := heq
      cases hb : abytes l with
      | none => rw [hb] at h; cases h
      | some s' =>
        rw [hb] at h
        simp only [Option.map_some, Option.some.injEq] at h; subst h
        obtain ⟨v, us, rfl, h1, h2⟩ := hv.cons_left
        obtain ⟨ns, rfl, rfl⟩ := ih hb h2
        cases h1
        exact ⟨n :: ns, rfl, rfl⟩
    · cases h
def abytesStr (T : TypeId → Option TD) (H : Heap) (src dst : TypeId) (x : AV) : Option AV :=
  match asliceElem T src, tk T dst with
  | some (e, _), .str => match tk T e, x with
    | .int .u8, .nils => some (.str [])
    | .int .u8, .emp => some (.str [])
    | .int .u8, .sl b o len _ => ((H.read b o len).bind abytes).map .str
    | .int .u8, .lst n cs => if cs.length = n then (abytes cs).map .str else none
    | .int .u8, .nul => some (.str [])
    | _, _ => none
  | _, _ => none
theorem abytesStr_run (hT : TOk P T) (hR : Rel base φ H w) {src dst : TypeId} {x v : AV} (h : abytesStr T H src dst x = some v) {x' : Value} (hx : RV φ x x') :
    ∃ u, RV φ v u ∧ (convert src dst x').run P w = .ok u w := by
  unfold abytesStr at h
  split at h
  · rename_i e n he hk
    obtain ⟨hu, hs⟩ := asliceElem_is hT he
    obtain ⟨d, i, u, z, hd, hdk, hi⟩ := tk_is hT hk (by simp)
    have hdst : P.underlying dst = some .string := by rw [hi.und, tkOf_str (hi.k.trans hdk)]
    split at h
    all_goals try (cases h; done)
    all_goals
      rename_i hke
      obtain ⟨d', i', u', z', hd', hdk', hi'⟩ := tk_is hT hke (by simp)
      have hel : P.underlying e = some (.int .u8) := by rw [hi'.und, tkOf_int (hi'.k.trans hdk')]
    · simp only [Option.some.injEq] at h; subst h
      cases hx
      exact ⟨_, .str [], run_convert_bytes_nil w src e hu hel 0 0 dst hdst⟩
    · simp only [Option.some.injEq] at h; subst h
      cases hx
      rename_i a c
      refine ⟨_, .str [], ?_⟩
      exact run_convert_bytes_back w src dst e a c [] hu hel hdst (fun j hj => by simp at hj)
    · rename_i b o len cap
      cases hr : H.read b o len with
      | none => rw [hr] at h; cases h
      | some l =>
        rw [hr] at h
        cases hb : abytes l with
        | none => simp only [Option.bind_some] at h; rw [hb] at h; cases h
        | some s =>
          simp only [Option.bind_some] at h
          rw [hb] at h
          simp only [Option.map_some, Option.some.injEq] at h; subst h
          cases hx
          rename_i L c hL hc
          obtain ⟨_, vs, h1, h2, h3⟩ := hR.read hr hL
          obtain ⟨ns, rfl, rfl⟩ := abytes_is hb h1
          refine ⟨_, .str _, ?_⟩
          have hlen : ns.length = len := by have := h1.1; rw [read_length hr] at this; simpa using this.symm
          have := run_convert_bytes_arg (P := P) w src e hu hel L.r (L.o + o) len c ns hlen (fun j hj => by
            refine h2 j _ ?_
            simp [List.getElem?_eq_getElem (show j < ns.length by omega), List.getD_eq_getElem?_getD]) dst hdst
          simpa [strOfNums] using this
    · rename_i n cs
      split at h
      · rename_i hlen
        cases hb : abytes cs with
        | none => rw [hb] at h; cases h
        | some s =>
          rw [hb] at h
          simp only [Option.map_some, Option.some.injEq] at h; subst h
          cases hx
          · rename_i r o c z hz hc hl h1 hx
            obtain ⟨vs, k1, k2, k3⟩ := hR.fzRead hz hl h1 hx
            obtain ⟨ns, rfl, rfl⟩ := abytes_is hb k1
            refine ⟨_, .str _, ?_⟩
            have hlen' : ns.length = n := by have := k1.1; simp at this; omega
            have := run_convert_bytes_arg (P := P) w src e hu hel r o n c ns hlen' (fun j hj => by
              refine k2 j _ ?_
              simp [List.getElem?_eq_getElem (show j < ns.length by omega), List.getD_eq_getElem?_getD]) dst hdst
            simpa [strOfNums] using this
          · simp only [abytes, Option.some.injEq] at hb; subst hb
            exact ⟨_, .str [], run_convert_bytes_nil w src e hu hel 0 0 dst hdst⟩
          · rename_i a c
            simp only [abytes, Option.some.injEq] at hb; subst hb
            exact ⟨_, .str [], run_convert_bytes_back w src dst e a c [] hu hel hdst (fun j hj => by simp at hj)⟩
      · cases h
    · simp only [Option.some.injEq] at h; subst h
      cases hx
      rename_i a
      cases a with
      | none => exact ⟨_, .str [], run_convert_bytes_nil w src e hu hel 0 0 dst hdst⟩
      | some a => exact ⟨_, .str [], run_convert_bytes_back w src dst e a 0 [] hu hel hdst (fun j hj => by simp at hj)⟩
  · cases h

/-! ### Slices of slices and strings -/
def abound (d : Nat) : Option AV → Option Nat
  | none => some d
  | some (.int _ n) => if 0 ≤ n then some n.toNat else none
  | some _ => none
/-- Up to where a slice's elements are known to lie. -/
def roomOf (H : Heap) (b o sz len : Nat) (cap : Option Nat) (n : Nat) : Bool :=
  match cap with
  | some c => decide (n ≤ c)
  | none => decide (n ≤ len) || (match H[b]? with
    | some B => B.st.own && decide (B.esz = sz) && decide (0 < sz) && decide (o + n * sz ≤ B.cells.length)
    | none => false)
/-- The block is alive, and its elements are of that size. -/
def eszOk (H : Heap) (b sz : Nat) : Bool := match H[b]? with
  | some B => B.st.alive && decide (B.esz = sz)
  | none => false
theorem eszOk_is {H : Heap} {b sz : Nat} (h : eszOk H b sz = true) : ∃ B, H[b]? = some B ∧ B.st.alive = true ∧ B.esz = sz := by
  unfold eszOk at h
  split at h
  · rename_i B hB
    simp only [Bool.and_eq_true, decide_eq_true_eq] at h
    exact ⟨B, hB, h.1, h.2⟩
  · cases h
def aslice (T : TypeId → Option TD) (H : Heap) (t : TypeId) (x : AV) (lo hi mx : Option AV) : Option AV :=
  match x with
  | .str s => match tk T t, mx, abound 0 lo, abound s.length hi with
    | .str, none, some l, some h => if l ≤ h ∧ h ≤ s.length then some (.str ((s.take h).drop l)) else none
    | _, _, _, _ => none
  | .nils => match asliceElem T t, mx, abound 0 lo, abound 0 hi with
    | some _, none, some l, some h => if l = 0 ∧ h = 0 then some .nils else none
    | some _, some (.int _ m), some l, some h => if m = 0 ∧ l = 0 ∧ h = 0 ∧ hi.isSome = true then some .nils else none
    | _, _, _, _ => none
  | .emp => match asliceElem T t, mx, abound 0 lo, abound 0 hi with
    | some _, none, some l, some h => if l = 0 ∧ h = 0 then some .emp else none
    | some _, some (.int _ m), some l, some h => if m = 0 ∧ l = 0 ∧ h = 0 ∧ hi.isSome = true then some .emp else none
    | _, _, _, _ => none
  | .nul => match asliceElem T t, mx, abound 0 lo, abound 0 hi with
    | some _, none, some l, some h => if l = 0 ∧ h = 0 then some .nul else none
    | some _, some (.int _ m), some l, some h => if m = 0 ∧ l = 0 ∧ h = 0 ∧ hi.isSome = true then some .nul else none
    | _, _, _, _ => none
  | .lst n cs => match asliceElem T t, abound 0 lo, abound n hi with
    | some (_, sz), some l, some h => match mx with
      | none => if l ≤ h ∧ h ≤ n ∧ h * sz ≤ cs.length then some (.lst (h - l) ((cs.drop (l * sz)).take ((h - l) * sz))) else none
      | some (.int _ m) => if 0 ≤ m ∧ l ≤ h ∧ h ≤ m.toNat ∧ m.toNat ≤ n ∧ h * sz ≤ cs.length ∧ hi.isSome = true then
          (if m.toNat = l then some .nul else some (.lst (h - l) ((cs.drop (l * sz)).take ((h - l) * sz)))) else none
      | some _ => none
    | _, _, _ => none
  | .sl b o len cap => match asliceElem T t, abound 0 lo, abound len hi with
    | some (_, sz), some l, some h => match mx with
      | none => if l ≤ h ∧ roomOf H b o sz len cap h = true ∧ eszOk H b sz = true then
          (if l = 0 then some (.sl b o h cap) else if l = h then some .emp else some (.sl b (o + l * sz) (h - l) (cap.map (· - l)))) else none
      | some (.int _ m) => if 0 ≤ m ∧ l ≤ h ∧ h ≤ m.toNat ∧ hi.isSome = true ∧ roomOf H b o sz len cap m.toNat = true then
          (if l = 0 then some (.sl b o h (some m.toNat)) else if l = h then some .emp else some (.sl b (o + l * sz) (h - l) (some (m.toNat - l)))) else none
      | some _ => none
    | _, _, _ => none
  | _ => none

theorem abound_run {d n : Nat} {x : Option AV} (h : abound d x = some n) {x' : Option Value} (hx : ∀ a, x = some a → ∃ v, x' = some v ∧ RV φ a v) (hn : x = none → x' = none) :
    (x' = none ∧ n = d) ∨ ∃ k, x' = some (.int k (n : Int)) := by
  unfold abound at h
  split at h
  · simp only [Option.some.injEq] at h; subst h
    exact .inl ⟨hn rfl, rfl⟩
  · rename_i k m
    split at h
    · rename_i h0
      simp only [Option.some.injEq] at h; subst h
      obtain ⟨v, hv, hr⟩ := hx _ rfl
      cases hr
      exact .inr ⟨k, by rw [hv, Int.toNat_of_nonneg h0]⟩
    · cases h
  · cases h

theorem bounds_run {isS : Bool} {len cap l h : Nat} {lo hi : Option Value} (hlo : (lo = none ∧ l = 0) ∨ ∃ k, lo = some (.int k (l : Int))) (hhi : (hi = none ∧ h = len) ∨ ∃ k, hi = some (.int k (h : Int)))
    (h1 : l ≤ h) (h2 : h ≤ cap) : (Instr.sliceBounds isS len cap lo hi none).run P w = .ok (l, h, cap) w := by
  have b1 : ∀ k code, (Instr.sliceBound (.int k (l : Int)) h code).run P w = .ok l w := fun k code => by
    rw [run_sliceBound w k l h code (by omega) (by omega)]; simp
  have b2 : ∀ k code, (Instr.sliceBound (.int k (h : Int)) cap code).run P w = .ok h w := fun k code => by
    rw [run_sliceBound w k h cap code (by omega) (by omega)]; simp
  rcases hlo with ⟨rfl, rfl⟩ | ⟨k, rfl⟩ <;> rcases hhi with ⟨rfl, rfl⟩ | ⟨k', rfl⟩ <;> simp [Instr.sliceBounds, b1, b2]
theorem bounds3_run {isS : Bool} {len cap l h m : Nat} {lo hi : Option Value} {km : IntKind} (hlo : (lo = none ∧ l = 0) ∨ ∃ k, lo = some (.int k (l : Int))) (hhi : ∃ k, hi = some (.int k (h : Int)))
    (h1 : l ≤ h) (h2 : h ≤ m) (h3 : m ≤ cap) : (Instr.sliceBounds isS len cap lo hi (some (.int km (m : Int)))).run P w = .ok (l, h, m) w := by
  have b1 : ∀ k code, (Instr.sliceBound (.int k (l : Int)) h code).run P w = .ok l w := fun k code => by
    rw [run_sliceBound w k l h code (by omega) (by omega)]; simp
  have b2 : ∀ k code, (Instr.sliceBound (.int k (h : Int)) m code).run P w = .ok h w := fun k code => by
    rw [run_sliceBound w k h m code (by omega) (by omega)]; simp
  have b3 : ∀ k code, (Instr.sliceBound (.int k (m : Int)) cap code).run P w = .ok m w := fun k code => by
    rw [run_sliceBound w k m cap code (by omega) (by omega)]; simp
  obtain ⟨k', rfl⟩ := hhi
  rcases hlo with ⟨rfl, rfl⟩ | ⟨k, rfl⟩ <;> simp [Instr.sliceBounds, b1, b2, b3]

theorem roomOf_is (hR : Rel base φ H w) {b o sz len n c : Nat} {cap : Option Nat} {L : Loc} (hL : φ b = some L) (hc : capOk L o len cap c) (h : roomOf H b o sz len cap n = true) : n ≤ c := by
  unfold roomOf at h
  obtain ⟨h1, h2, h3⟩ := hc
  cases cap with
  | some k => simp at h h3; omega
  | none =>
    simp only [Bool.or_eq_true, decide_eq_true_eq] at h
    rcases h with h | h
    · omega
    · split at h
      · rename_i B hB
        simp only [Bool.and_eq_true, decide_eq_true_eq] at h
        obtain ⟨⟨⟨k1, k2⟩, k3⟩, k4⟩ := h
        obtain ⟨g1, g2, g3, ca, e, fz, g4, g5, g6, _⟩ := (BlkRel.own_iff k1).1 (hR.blk b B L hB hL)
        have h4 := h3 g1
        rw [g3, k2] at h4
        have : n * sz ≤ c * sz := by omega
        exact Nat.le_of_mul_le_mul_right this k3
      · cases h

theorem aslice_run (hT : TOk P T) (hR : Rel base φ H w) {t : TypeId} {x v : AV} {lo hi mx : Option AV} (h : aslice T H t x lo hi mx = some v) {x' : Value} (hx : RV φ x x') {lo' hi' mx' : Option Value}
    (hlo : ∀ a, lo = some a → ∃ v, lo' = some v ∧ RV φ a v) (nlo : lo = none → lo' = none) (hhi : ∀ a, hi = some a → ∃ v, hi' = some v ∧ RV φ a v) (nhi : hi = none → hi' = none)
    (hmx : ∀ a, mx = some a → ∃ v, mx' = some v ∧ RV φ a v) (nmx : mx = none → mx' = none) :
    ∃ u, RV φ v u ∧ (Instr.sliceAt t x' lo' hi' mx').run P w = .ok u w := by
  unfold aslice at h
  split at h
  · rename_i s
    split at h
    · rename_i l hh hk hl hh'
      obtain ⟨d, i, u, z, hd, hdk, hi⟩ := tk_is hT hk (by simp)
      have hu : P.underlying t = some .string := by rw [hi.und, tkOf_str (hi.k.trans hdk)]
      split at h
      · rename_i hc
        simp only [Option.some.injEq] at h; subst h
        cases hx
        obtain rfl := nmx rfl
        have hb := bounds_run (P := P) (w := w) (isS := false) (len := s.length) (cap := s.length) (abound_run hl hlo nlo) (abound_run hh' hhi nhi) hc.1 hc.2
        refine ⟨_, .str _, ?_⟩
        simp only [Instr.sliceAt, Sem.run_bind, run_underlying hu, Result.andThen_ok, Instr.slice, mk_size, hb, Option.isSome_none, Bool.false_eq_true, if_false, Sem.run_pure]
        have e : (ByteArray.mk s.toArray).extract l hh = ByteArray.mk ((s.take hh).drop l).toArray := by
          apply ByteArray.ext
          simp [ByteArray.data_extract, List.extract_eq_take_drop, List.drop_take]
        simp [e]
      · cases h
    · cases h
  · split at h
    · rename_i es l hh he hl hh'
      obtain ⟨e, sz⟩ := es
      obtain ⟨hu, hs⟩ := asliceElem_is hT he
      split at h
      · rename_i hc
        obtain ⟨rfl, rfl⟩ := hc
        simp only [Option.some.injEq] at h; subst h
        cases hx
        obtain rfl := nmx rfl
        have hb := bounds_run (P := P) (w := w) (isS := true) (len := 0) (cap := 0) (abound_run hl hlo nlo) (abound_run hh' hhi nhi) (Nat.le_refl _) (Nat.le_refl _)
        exact ⟨_, .nils, by simp [Instr.sliceAt, run_underlying hu, Instr.slice, hb, asize_run hT hs]⟩
      · cases h
    · rename_i es km m l hh he hl hh'
      obtain ⟨e, sz⟩ := es
      obtain ⟨hu, hs⟩ := asliceElem_is hT he
      split at h
      · rename_i hc
        obtain ⟨rfl, rfl, rfl, h3⟩ := hc
        simp only [Option.some.injEq] at h; subst h
        cases hx
        obtain ⟨mv, rfl, hmr⟩ := hmx _ rfl
        cases hmr
        have hhi' : ∃ k, hi' = some (.int k ((0 : Nat) : Int)) := by
          rcases abound_run hh' hhi nhi with ⟨hn, _⟩ | hk
          · cases hi with
            | none => simp at h3
            | some a => obtain ⟨v, hv, _⟩ := hhi a rfl; rw [hv] at hn; cases hn
          · exact hk
        have hb := bounds3_run (P := P) (w := w) (isS := true) (len := 0) (cap := 0) (km := km) (m := 0) (abound_run hl hlo nlo) hhi' (Nat.le_refl _) (Nat.le_refl _) (Nat.le_refl _)
        exact ⟨_, .nils, by simp only [Int.ofNat_zero, Int.natCast_zero] at hb; simp [Instr.sliceAt, run_underlying hu, Instr.slice, hb, asize_run hT hs]⟩
      · cases h
    · cases h
  · split at h
    · rename_i es l hh he hl hh'
      obtain ⟨e, sz⟩ := es
      obtain ⟨hu, hs⟩ := asliceElem_is hT he
      split at h
      · rename_i hc
        obtain ⟨rfl, rfl⟩ := hc
        simp only [Option.some.injEq] at h; subst h
        cases hx
        rename_i a c
        obtain rfl := nmx rfl
        have hb := bounds_run (P := P) (w := w) (isS := true) (len := 0) (cap := c) (abound_run hl hlo nlo) (abound_run hh' hhi nhi) (Nat.le_refl _) (Nat.zero_le _)
        refine ⟨_, .emp a c, ?_⟩
        simp only [Instr.sliceAt, Sem.run_bind, run_underlying hu, Result.andThen_ok, Instr.slice, hb, asize_run hT hs, Sem.run_pure]
        by_cases hc0 : c = 0 <;> simp [Addr.add, hc0]
      · cases h
    · rename_i es km m l hh he hl hh'
      obtain ⟨e, sz⟩ := es
      obtain ⟨hu, hs⟩ := asliceElem_is hT he
      split at h
      · rename_i hc
        obtain ⟨rfl, rfl, rfl, h3⟩ := hc
        simp only [Option.some.injEq] at h; subst h
        cases hx
        rename_i a c
        obtain ⟨mv, rfl, hmr⟩ := hmx _ rfl
        cases hmr
        have hhi' : ∃ k, hi' = some (.int k ((0 : Nat) : Int)) := by
          rcases abound_run hh' hhi nhi with ⟨hn, _⟩ | hk
          · cases hi with
            | none => simp at h3
            | some a => obtain ⟨v, hv, _⟩ := hhi a rfl; rw [hv] at hn; cases hn
          · exact hk
        have hb := bounds3_run (P := P) (w := w) (isS := true) (len := 0) (cap := c) (km := km) (m := 0) (abound_run hl hlo nlo) hhi' (Nat.le_refl _) (Nat.le_refl _) (Nat.zero_le _)
        refine ⟨_, .emp a 0, ?_⟩
        simp only [Int.ofNat_zero, Int.natCast_zero] at hb
        simp only [Instr.sliceAt, Sem.run_bind, run_underlying hu, Result.andThen_ok, Instr.slice, hb, asize_run hT hs, Sem.run_pure]
        simp [Addr.add]
      · cases h
    · cases h
  · split at h
    · rename_i es l hh he hl hh'
      obtain ⟨e, sz⟩ := es
      obtain ⟨hu, hs⟩ := asliceElem_is hT he
      split at h
      · rename_i hc
        obtain ⟨rfl, rfl⟩ := hc
        simp only [Option.some.injEq] at h; subst h
        cases hx
        rename_i a
        obtain rfl := nmx rfl
        have hb := bounds_run (P := P) (w := w) (isS := true) (len := 0) (cap := 0) (abound_run hl hlo nlo) (abound_run hh' hhi nhi) (Nat.le_refl _) (Nat.le_refl _)
        refine ⟨_, .nul a, ?_⟩
        cases a <;> simp [Instr.sliceAt, run_underlying hu, Instr.slice, hb, asize_run hT hs]
      · cases h
    · rename_i es km m l hh he hl hh'
      obtain ⟨e, sz⟩ := es
      obtain ⟨hu, hs⟩ := asliceElem_is hT he
      split at h
      · rename_i hc
        obtain ⟨rfl, rfl, rfl, h3⟩ := hc
        simp only [Option.some.injEq] at h; subst h
        cases hx
        rename_i a
        obtain ⟨mv, rfl, hmr⟩ := hmx _ rfl
        cases hmr
        have hhi' : ∃ k, hi' = some (.int k ((0 : Nat) : Int)) := by
          rcases abound_run hh' hhi nhi with ⟨hn, _⟩ | hk
          · cases hi with
            | none => simp at h3
            | some a => obtain ⟨v, hv, _⟩ := hhi a rfl; rw [hv] at hn; cases hn
          · exact hk
        have hb := bounds3_run (P := P) (w := w) (isS := true) (len := 0) (cap := 0) (km := km) (m := 0) (abound_run hl hlo nlo) hhi' (Nat.le_refl _) (Nat.le_refl _) (Nat.le_refl _)
        refine ⟨_, .nul a, ?_⟩
        simp only [Int.ofNat_zero, Int.natCast_zero] at hb
        cases a <;> simp [Instr.sliceAt, run_underlying hu, Instr.slice, hb, asize_run hT hs]
      · cases h
    · cases h
  · rename_i n cs
    split at h
    · rename_i e sz l hh he hl hh'
      obtain ⟨hu, hs⟩ := asliceElem_is hT he
      split at h
      · split at h
        · rename_i hc
          obtain ⟨h1, h2, h3⟩ := hc
          simp only [Option.some.injEq] at h; subst h
          obtain rfl := nmx rfl
          obtain ⟨a, c, rfl, hnc, hrv⟩ : ∃ a c, x' = .slice a n c ∧ n ≤ c ∧ (a = none → n = 0 ∧ c = 0) := by
            cases hx
            · rename_i r o c z hz hc hlz hone hxx
              exact ⟨_, c, rfl, hc.1, fun h => by cases h⟩
            · exact ⟨none, 0, rfl, Nat.le_refl _, fun _ => ⟨rfl, rfl⟩⟩
            · rename_i a c; exact ⟨some a, c, rfl, Nat.zero_le _, fun h => by cases h⟩
          have hb := bounds_run (P := P) (w := w) (isS := true) (len := n) (cap := c) (abound_run hl hlo nlo) (abound_run hh' hhi nhi) h1 (by omega)
          cases a with
          | none =>
            obtain ⟨rfl, rfl⟩ := hrv rfl
            obtain rfl : hh = 0 := by omega
            obtain rfl : l = 0 := by omega
            exact ⟨_, by simpa using RV.lst0n, by simp [Instr.sliceAt, run_underlying hu, Instr.slice, hb, asize_run hT hs]⟩
          | some a =>
            by_cases he0 : l = hh
            · subst he0
              refine ⟨_, ?_, by
                simp only [Instr.sliceAt, Sem.run_bind, run_underlying hu, Result.andThen_ok, Instr.slice, hb, asize_run hT hs, Sem.run_pure]; rfl⟩
              simp only [Nat.sub_self, Nat.zero_mul, List.take_zero]
              split
              · exact .lst0e _ _
              · exact .lst0e _ _
            · cases hx
              · rename_i r o z hz hlz hone hxx hc
                have hne : ¬ c = l := by omega
                have hm : (hh - l) * sz = hh * sz - l * sz := Nat.sub_mul ..
                have hm2 : l * sz ≤ hh * sz := Nat.mul_le_mul_right _ h1
                refine ⟨_, .lst (hh - l) _ r (o + l * sz) (c - l) z hz ⟨by omega, by omega⟩ (by rw [List.length_take, List.length_drop]; omega) (fun a ha => hone a (List.mem_of_mem_drop (List.mem_of_mem_take ha))) (fun i a v ha hv => ?_), ?_⟩
                · rw [List.getElem?_take] at ha
                  split at ha
                  · rw [List.getElem?_drop] at ha
                    exact hxx (l * sz + i) a v ha (by rw [← Nat.add_assoc]; exact hv)
                  · cases ha
                · simp [Instr.sliceAt, run_underlying hu, Instr.slice, hb, asize_run hT hs, hne, addr_add]
              · omega
        · cases h
      · rename_i km m
        split at h
        · rename_i hc
          obtain ⟨hm0, h1, h2, h3, h4, h5⟩ := hc
          obtain ⟨mv, rfl, hmr⟩ := hmx _ rfl
          cases hmr
          have hhi' : ∃ k, hi' = some (.int k (hh : Int)) := by
            rcases abound_run hh' hhi nhi with ⟨hn, _⟩ | hk
            · cases hi with
              | none => simp at h5
              | some a => obtain ⟨v, hv, _⟩ := hhi a rfl; rw [hv] at hn; cases hn
            · exact hk
          obtain ⟨a, c, rfl, hnc, hrv⟩ : ∃ a c, x' = .slice a n c ∧ n ≤ c ∧ (a = none → n = 0 ∧ c = 0) := by
            cases hx
            · rename_i r o c z hz hc hlz hone hxx
              exact ⟨_, c, rfl, hc.1, fun h => by cases h⟩
            · exact ⟨none, 0, rfl, Nat.le_refl _, fun _ => ⟨rfl, rfl⟩⟩
            · rename_i a c; exact ⟨some a, c, rfl, Nat.zero_le _, fun h => by cases h⟩
          have hb := bounds3_run (P := P) (w := w) (isS := true) (len := n) (cap := c) (km := km) (m := m.toNat) (abound_run hl hlo nlo) hhi' h1 h2 (by omega)
          rw [Int.toNat_of_nonneg hm0] at hb
          cases a with
          | none =>
            obtain ⟨rfl, rfl⟩ := hrv rfl
            have hmz : m.toNat = 0 := by omega
            obtain rfl : hh = 0 := by omega
            obtain rfl : l = 0 := by omega
            rw [if_pos hmz] at h
            simp only [Option.some.injEq] at h; subst h
            rw [hmz] at hb
            exact ⟨_, .nul none, by simp [Instr.sliceAt, run_underlying hu, Instr.slice, hb, asize_run hT hs]⟩
          | some a =>
            split at h
            · rename_i hml
              simp only [Option.some.injEq] at h; subst h
              have hhl : hh = l := by omega
              refine ⟨.slice (some a) 0 0, .nul _, ?_⟩
              subst hhl
              simp [Instr.sliceAt, run_underlying hu, Instr.slice, hb, asize_run hT hs, hml]
            · rename_i hml
              simp only [Option.some.injEq] at h; subst h
              by_cases he0 : l = hh
              · subst he0
                refine ⟨_, ?_, by
                  simp only [Instr.sliceAt, Sem.run_bind, run_underlying hu, Result.andThen_ok, Instr.slice, hb, asize_run hT hs, Sem.run_pure]; rfl⟩
                simp only [Nat.sub_self, Nat.zero_mul, List.take_zero]
                split
                · exact .lst0e _ _
                · exact .lst0e _ _
              · cases hx
                · rename_i r o z hz hlz hone hxx hc
                  have hm : (hh - l) * sz = hh * sz - l * sz := Nat.sub_mul ..
                  have hm2 : l * sz ≤ hh * sz := Nat.mul_le_mul_right _ h1
                  refine ⟨_, .lst (hh - l) _ r (o + l * sz) (m.toNat - l) z hz ⟨by omega, by omega⟩ (by rw [List.length_take, List.length_drop]; omega) (fun a ha => hone a (List.mem_of_mem_drop (List.mem_of_mem_take ha))) (fun i a v ha hv => ?_), ?_⟩
                  · rw [List.getElem?_take] at ha
                    split at ha
                    · rw [List.getElem?_drop] at ha
                      exact hxx (l * sz + i) a v ha (by rw [← Nat.add_assoc]; exact hv)
                    · cases ha
                  · simp [Instr.sliceAt, run_underlying hu, Instr.slice, hb, asize_run hT hs, hml, addr_add]
                · omega
        · cases h
      · cases h
    · cases h
  · rename_i b o len cap
    split at h
    · rename_i e sz l hh he hl hh'
      obtain ⟨hu, hs⟩ := asliceElem_is hT he
      cases hx
      rename_i L c hL hcap
      split at h
      · split at h
        · rename_i hc
          obtain ⟨h1, h2, h3⟩ := hc
          have hhc := roomOf_is hR hL hcap h2
          obtain rfl := nmx rfl
          have hb := bounds_run (P := P) (w := w) (isS := true) (len := len) (cap := c) (abound_run hl hlo nlo) (abound_run hh' hhi nhi) h1 hhc
          obtain ⟨c1, c2, c3⟩ := hcap
          split at h
          · rename_i h0
            subst h0
            simp only [Option.some.injEq] at h; subst h
            refine ⟨_, .sl b o hh cap L c hL ⟨hhc, c2, c3⟩, ?_⟩
            simp only [Instr.sliceAt, Sem.run_bind, run_underlying hu, Result.andThen_ok, Instr.slice, hb, asize_run hT hs, Sem.run_pure]
            by_cases hc0 : c = 0 <;> simp [Addr.add, hc0]
          · rename_i h0
            split at h
            · rename_i he
              subst he
              simp only [Option.some.injEq] at h; subst h
              exact ⟨_, .emp (if c = l then ⟨L.r, L.o + o, none⟩ else (⟨L.r, L.o + o, none⟩ : Addr).add (l * sz)) (c - l), by
                simp only [Instr.sliceAt, Sem.run_bind, run_underlying hu, Result.andThen_ok, Instr.slice, hb, asize_run hT hs, Sem.run_pure]
                by_cases hc0 : c = l <;> simp [hc0]⟩
            · rename_i hne
              simp only [Option.some.injEq] at h; subst h
              refine ⟨_, .sl b (o + l * sz) (hh - l) _ L (c - l) hL ⟨by omega, by omega, ?_⟩, ?_⟩
              · cases cap with
                | some k => simp only [Option.map_some] at c3 ⊢; omega
                | none =>
                  intro hown
                  have h4 := c3 hown
                  obtain ⟨B, hB, hal, h3⟩ := eszOk_is h3
                  have hrel := hR.blk b B L hB hL
                  have hesz : c * L.esz = (c - l) * L.esz + l * L.esz := by rw [← Nat.add_mul]; congr 1; omega
                  have g3 : L.esz = B.esz := by
                    cases hst : B.st with
                    | dead => rw [hst] at hal; cases hal
                    | ro =>
                      unfold BlkRel at hrel; rw [hst] at hrel; simp only at hrel
                      rcases hrel.1 with ⟨h', _⟩ | ⟨h', _⟩
                      · rw [h'] at hown; cases hown
                      · exact h'
                    | opn => exact ((BlkRel.own_iff (by rw [hst]; rfl)).1 hrel).2.2.1
                    | full => exact ((BlkRel.own_iff (by rw [hst]; rfl)).1 hrel).2.2.1
                    | mp => rw [hst] at hal; cases hal
                  rw [g3, h3] at hesz h4 ⊢
                  omega
              · have hne' : ¬ c = l := by omega
                simp [Instr.sliceAt, run_underlying hu, Instr.slice, hb, asize_run hT hs, hne', addr_add, Nat.add_assoc]
        · cases h
      · rename_i km m
        split at h
        · rename_i hc
          obtain ⟨hm0, h1, h2, h3, h4⟩ := hc
          have hmc := roomOf_is hR hL hcap h4
          obtain ⟨mv, rfl, hmr⟩ := hmx _ rfl
          cases hmr
          have hhi' : ∃ k, hi' = some (.int k (hh : Int)) := by
            rcases abound_run hh' hhi nhi with ⟨hn, _⟩ | hk
            · cases hi with
              | none => simp at h3
              | some a => obtain ⟨v, hv, _⟩ := hhi a rfl; rw [hv] at hn; cases hn
            · exact hk
          have hb := bounds3_run (P := P) (w := w) (isS := true) (len := len) (cap := c) (km := km) (m := m.toNat) (abound_run hl hlo nlo) hhi' h1 h2 hmc
          rw [Int.toNat_of_nonneg hm0] at hb
          obtain ⟨c1, c2, c3⟩ := hcap
          split at h
          · rename_i h0
            subst h0
            simp only [Option.some.injEq] at h; subst h
            refine ⟨_, .sl b o hh _ L m.toNat hL ⟨h2, by omega, rfl⟩, ?_⟩
            simp only [Instr.sliceAt, Sem.run_bind, run_underlying hu, Result.andThen_ok, Instr.slice, hb, asize_run hT hs, Sem.run_pure]
            by_cases hc0 : m.toNat = 0 <;> simp [Addr.add, hc0]
          · rename_i h0
            split at h
            · rename_i he
              subst he
              simp only [Option.some.injEq] at h; subst h
              exact ⟨_, .emp (if m.toNat = l then ⟨L.r, L.o + o, none⟩ else (⟨L.r, L.o + o, none⟩ : Addr).add (l * sz)) (m.toNat - l), by
                simp only [Instr.sliceAt, Sem.run_bind, run_underlying hu, Result.andThen_ok, Instr.slice, hb, asize_run hT hs, Sem.run_pure]
                by_cases hc0 : m.toNat = l <;> simp [hc0]⟩
            · rename_i hne
              simp only [Option.some.injEq] at h; subst h
              refine ⟨_, .sl b (o + l * sz) (hh - l) _ L (m.toNat - l) hL ⟨by omega, by omega, rfl⟩, ?_⟩
              have hne' : ¬ m.toNat = l := by omega
              simp [Instr.sliceAt, run_underlying hu, Instr.slice, hb, asize_run hT hs, hne', addr_add, Nat.add_assoc]
        · cases h
      · cases h
    · cases h
  · cases h
end
end Go.Proofs.PI

