import Derived.Test.YtccfhighlpfdmaaTrkC
set_option linter.unusedSimpArgs false
set_option linter.unusedVariables false
set_option maxRecDepth 100000
set_option maxHeartbeats 2000000
namespace Go.Proofs.Ytccfhighlpfdmaa
open Go Go.Proofs Go.Proofs.PI
/-! ### plain: names, tracks, pushes -/
structure Nm where
  ten : Int
  key : List UInt8
deriving instance DecidableEq for Nm
def Nm.cs (n : Nm) : List AV := [.int .i64 n.ten, .str n.key]
def Nm.av (n : Nm) : AV := .agg [.int .i64 n.ten, .str n.key]
def nmE : Enc Nm := ⟨2, Nm.cs, fun _ => rfl, fun x a ha => by
  simp only [Nm.cs, List.mem_cons, List.not_mem_nil, or_false] at ha; rcases ha with rfl | rfl <;> rfl⟩
theorem nmE_cells (c : Nm) : nmE.cells c = [.int .i64 c.ten, .str c.key] := rfl
structure Tk where
  on : Bool
  ns : List Nm
def Tk.cs (t : Tk) : List AV := [.bool t.on, nmE.lst t.ns]
def Tk.av (t : Tk) : AV := .agg [.bool t.on, nmE.lst t.ns]
def tkE : Enc Tk := ⟨2, Tk.cs, fun _ => rfl, fun x a ha => by
  simp only [Tk.cs, List.mem_cons, List.not_mem_nil, or_false] at ha; rcases ha with rfl | rfl <;> rfl⟩
theorem tkE_cells (c : Tk) : tkE.cells c = [.bool c.on, nmE.lst c.ns] := rfl
structure Pu where
  conn : Int
  ten : Int
  key : List UInt8
deriving instance DecidableEq for Pu
def Pu.cs (n : Pu) : List AV := [.int .i64 n.conn, .int .i64 n.ten, .str n.key]
def Pu.av (n : Pu) : AV := .agg [.int .i64 n.conn, .int .i64 n.ten, .str n.key]
def puE : Enc Pu := ⟨3, Pu.cs, fun _ => rfl, fun x a ha => by
  simp only [Pu.cs, List.mem_cons, List.not_mem_nil, or_false] at ha; rcases ha with rfl | rfl | rfl <;> rfl⟩
theorem puE_cells (c : Pu) : puE.cells c = [.int .i64 c.conn, .int .i64 c.ten, .str c.key] := rfl
def trAv (l : List Tk) : AV := .agg [tkE.lst l]

/-- May a name be? -/
def Nm.mayB (n : Nm) : Bool := decide ((0 ≤ n.ten ∧ n.ten < 4) ∧ 1 ≤ n.key.length ∧ n.key.length ≤ 32)
def Tk.may (t : Tk) : Prop := ((t.on = true ∨ t.ns = []) ∧ t.ns.length ≤ 16) ∧ (∀ n ∈ t.ns, n.mayB = true) ∧ t.ns.Nodup
instance (t : Tk) : Decidable t.may := by unfold Tk.may; infer_instance
def trMay (l : List Tk) : Prop := 1 ≤ l.length ∧ l.length ≤ 8 ∧ ∀ t ∈ l, t.may
instance (l : List Tk) : Decidable (trMay l) := by unfold trMay; infer_instance
def trE (l : List Tk) : Int := if trMay l then 0 else 8
theorem trE_bad {l : List Tk} (h : ¬ trMay l) : trE l = 8 := by unfold trE; rw [if_neg h]
theorem trE_ok {l : List Tk} (h : trMay l) : trE l = 0 := by unfold trE; rw [if_pos h]
theorem nodup_step {l : List Nm} {i : Nat} (h : i < l.length) : (l.take (i + 1)).Nodup ↔ (l.take i).Nodup ∧ l[i] ∉ l.take i := by
  rw [List.take_succ_eq_append_getElem h, List.nodup_append]
  constructor
  · rintro ⟨h1, _, h3⟩
    exact ⟨h1, fun hm => h3 _ hm _ (List.mem_singleton.2 rfl) rfl⟩
  · rintro ⟨h1, h2⟩
    refine ⟨h1, by simp, fun a ha b hb e => ?_⟩
    rw [List.mem_singleton] at hb
    exact h2 (by rw [← hb, ← e]; exact ha)
theorem mem_take_step {l : List Nm} {i : Nat} (h : i < l.length) {p : Nm → Prop} : (∀ n ∈ l.take (i + 1), p n) ↔ (∀ n ∈ l.take i, p n) ∧ p l[i] := by
  rw [List.take_succ_eq_append_getElem h]
  constructor
  · exact fun hp => ⟨fun n hn => hp n (List.mem_append_left _ hn), hp _ (List.mem_append_right _ (List.mem_singleton.2 rfl))⟩
  · rintro ⟨h1, h2⟩ n hn
    rcases List.mem_append.1 hn with hn | hn
    · exact h1 n hn
    · rw [List.mem_singleton] at hn; subst hn; exact h2
/-- A name and the ones ahead of it. -/
def headOk (l : List Nm) (i : Nat) : Prop := (∀ n ∈ l.take i, n.mayB = true) ∧ (l.take i).Nodup
theorem headOk_zero (l : List Nm) : headOk l 0 := ⟨by simp, by simp⟩
theorem headOk_step {l : List Nm} {i : Nat} (h : i < l.length) : headOk l (i + 1) ↔ headOk l i ∧ l[i].mayB = true ∧ l[i] ∉ l.take i := by
  unfold headOk
  rw [nodup_step h, mem_take_step h]
  constructor
  · rintro ⟨⟨h1, h2⟩, h3, h4⟩; exact ⟨⟨h1, h3⟩, h2, h4⟩
  · rintro ⟨⟨h1, h3⟩, h2, h4⟩; exact ⟨⟨h1, h2⟩, h3, h4⟩
theorem headOk_all {l : List Nm} {i : Nat} (h : l.length ≤ i) : headOk l i ↔ (∀ n ∈ l, n.mayB = true) ∧ l.Nodup := by
  unfold headOk; rw [List.take_of_length_le h]
theorem headOk_bad {t : Tk} {i : Nat} (hi : i < t.ns.length) (h : ¬ (t.ns[i].mayB = true ∧ t.ns[i] ∉ t.ns.take i)) : ¬ t.may := by
  rintro ⟨-, h1, h2⟩
  refine h ⟨h1 _ (List.getElem_mem hi), ?_⟩
  have : (t.ns.take (i + 1)).Nodup := h2.sublist (List.take_sublist _ _)
  exact ((nodup_step hi).1 this).2

/-! ### plain: what is done -/
def tkHit (c : Chg) (n : Nm) : Bool := decide ((c.kind = 1 ∧ n.ten = c.ten ∧ n.key = c.ikey) ∨ (c.kind = 2 ∧ n.ten = c.ten ∧ n.key = c.key) ∨ (c.kind = 3 ∧ n.ten = c.ten))
def dropT (c : Chg) (t : Tk) : Tk := ⟨t.on, t.ns.filter fun n => !tkHit c n⟩
def pushN (i : Nat) (n : Nm) : Pu := ⟨i, n.ten, n.key⟩
def pushT (c : Chg) (i : Nat) (l : List Nm) : List Pu := (l.filter (tkHit c)).map (pushN i)
def tkAt (l : List Tk) (i : Nat) : Tk := l[i]?.getD ⟨false, []⟩
theorem tkAt_eq {l : List Tk} {i : Nat} (h : i < l.length) : tkAt l i = l[i] := by unfold tkAt; rw [List.getElem?_eq_getElem h]; rfl
/-- What a change pushes to the first connections. -/
def stepP (c : Chg) (l : List Tk) : Nat → List Pu
  | 0 => []
  | j + 1 => stepP c l j ++ pushT c j (tkAt l j).ns
/-- The tracks behind the first j connections. -/
def mixT (c : Chg) (l : List Tk) (j : Nat) : List Tk := (l.take j).map (dropT c) ++ l.drop j
theorem mixT_len (c : Chg) (l : List Tk) (j : Nat) : (mixT c l j).length = l.length := by
  unfold mixT; rw [List.length_append, List.length_map, List.length_take, List.length_drop]; omega
theorem mixT_zero (c : Chg) (l : List Tk) : mixT c l 0 = l := by simp [mixT]
theorem mixT_all (c : Chg) (l : List Tk) : mixT c l l.length = l.map (dropT c) := by simp [mixT]
theorem mixT_at {c : Chg} {l : List Tk} {j : Nat} (h : j < l.length) : (mixT c l j)[j]? = some l[j] := by
  unfold mixT
  rw [List.getElem?_append_right (by simp; omega), List.getElem?_drop, List.length_map, List.length_take, show j + (j - min j l.length) = j by omega, List.getElem?_eq_getElem h]
theorem mixT_step {c : Chg} {l : List Tk} {j : Nat} (h : j < l.length) : (mixT c l j).set j (dropT c l[j]) = mixT c l (j + 1) := by
  unfold mixT
  rw [List.take_succ_eq_append_getElem h, List.map_append, List.append_assoc, List.drop_eq_getElem_cons h, List.set_append_right _ _ (by simp; omega)]
  congr 1
  rw [List.length_map, List.length_take, show j - min j l.length = 0 by omega]
  rfl
def stepT (c : Chg) (l : List Tk) : List Tk := l.map (dropT c)
theorem stepT_len (c : Chg) (l : List Tk) : (stepT c l).length = l.length := by simp [stepT]
/-- Tracks and pushes behind changes. -/
def runS (s : List Tk × List Pu) (l : List Chg) : List Tk × List Pu := l.foldl (fun s c => (stepT c s.1, s.2 ++ stepP c s.1 s.1.length)) s
theorem runS_step {s : List Tk × List Pu} {l : List Chg} {i : Nat} (h : i < l.length) : runS s (l.take (i + 1)) = (stepT l[i] (runS s (l.take i)).1, (runS s (l.take i)).2 ++ stepP l[i] (runS s (l.take i)).1 (runS s (l.take i)).1.length) := by
  unfold runS; rw [List.take_succ_eq_append_getElem h, List.foldl_append]; rfl
theorem runS_len (l : List Chg) : ∀ s : List Tk × List Pu, (runS s l).1.length = s.1.length := by
  induction l with
  | nil => exact fun s => rfl
  | cons c l ih =>
    intro s
    show (runS (stepT c s.1, s.2 ++ stepP c s.1 s.1.length) l).1.length = _
    rw [ih, stepT_len]
/-- How many names there are. -/
def nsum (l : List Tk) : Nat := (l.map fun t => t.ns.length).sum
theorem stepP_len (c : Chg) (l : List Tk) (j : Nat) (hj : j ≤ l.length) : (stepP c l j).length + nsum (mixT c l j) = nsum l := by
  induction j with
  | zero => rw [mixT_zero]; simp [stepP]
  | succ j ih =>
    have hlt : j < l.length := by omega
    have h1 := ih (by omega)
    rw [stepP, List.length_append, tkAt_eq hlt]
    have h2 : (pushT c j l[j].ns).length + (dropT c l[j]).ns.length = l[j].ns.length := by
      simp only [pushT, dropT, List.length_map]
      generalize l[j].ns = ns
      induction ns with
      | nil => rfl
      | cons a ns ih => cases h : tkHit c a <;> simp [h, List.filter_cons] at ih ⊢ <;> omega
    have h3 : nsum (mixT c l j) = nsum (mixT c l (j + 1)) + (pushT c j l[j].ns).length := by
      unfold mixT nsum
      rw [List.take_succ_eq_append_getElem hlt, List.drop_eq_getElem_cons hlt]
      simp only [List.map_append, List.map_cons, List.map_nil, List.sum_append, List.sum_cons, List.sum_nil]
      omega
    omega
theorem runS_sum (l : List Chg) : ∀ s : List Tk × List Pu, (runS s l).2.length + nsum (runS s l).1 = s.2.length + nsum s.1 := by
  induction l with
  | nil => exact fun s => rfl
  | cons c l ih =>
    intro s
    show (runS (stepT c s.1, s.2 ++ stepP c s.1 s.1.length) l).2.length + nsum (runS (stepT c s.1, s.2 ++ stepP c s.1 s.1.length) l).1 = _
    rw [ih]
    have := stepP_len c s.1 s.1.length (Nat.le_refl _)
    rw [mixT_all] at this
    simp only [List.length_append]
    show _ + nsum (s.1.map (dropT c)) = _
    omega
theorem nsum_le {l : List Tk} {n : Nat} (h : ∀ t ∈ l, t.ns.length ≤ n) : nsum l ≤ n * l.length := by
  induction l with
  | nil => simp [nsum]
  | cons t l ih =>
    have h1 := h t (.head _)
    have h2 := ih fun x hx => h x (.tail _ hx)
    simp only [nsum, List.map_cons, List.sum_cons, List.length_cons, Nat.mul_add] at *
    omega
theorem nsum_may {l : List Tk} (h : trMay l) : nsum l ≤ 128 := by
  have := nsum_le fun t ht => (h.2.2 t ht).1.2
  have := h.2.1
  omega
/-- Change: tracks, pushes, error. -/
noncomputable def trChg (l : List Tk) (cs : List Chg) : (List Tk × List Pu) × Int :=
  if trMay l then (if (changesL cs).2 = 0 then (runS (l, []) cs, 0) else (([], []), (changesL cs).2)) else (([], []), 8)
/-- The names when one is read. -/
def readN (l : List Nm) (n : Nm) : List Nm := (l.filter fun m => !decide (m = n)) ++ [n]
def readT (i : Nat) (t : Tk) (n : Nm) : Tk × List Pu :=
  if (readN t.ns n).length ≤ 16 then (⟨t.on, readN t.ns n⟩, []) else (⟨t.on, (readN t.ns n).drop 1⟩, ((readN t.ns n).take 1).map (pushN i))
/-- What asked answers. -/
def askE (l : List Tk) (i : Int) : Int := if trMay l then (if 0 ≤ i ∧ i < l.length then 0 else 2) else 8
def trRead (l : List Tk) (i : Int) (n : Nm) : (List Tk × List Pu) × Int :=
  if askE l i = 0 then
    (if n.mayB = true then
      (if (tkAt l i.toNat).on = true then ((l.set i.toNat (readT i.toNat (tkAt l i.toNat) n).1, (readT i.toNat (tkAt l i.toNat) n).2), 0) else ((l, []), 0))
    else (([], []), 8))
  else (([], []), askE l i)
/-! ### own tracks in memory -/
def row2 : List (AV × AV) → List AV
  | [] => []
  | x :: l => x.1 :: x.2 :: row2 l
theorem row2_len : ∀ l : List (AV × AV), (row2 l).length = l.length * 2
  | [] => rfl
  | x :: l => by show (row2 l).length + 1 + 1 = _; rw [row2_len l, List.length_cons]; omega
theorem row2_get0 : ∀ {l : List (AV × AV)} {i : Nat} {x : AV × AV}, l[i]? = some x → (row2 l)[i * 2]? = some x.1
  | [], i, x, h => by simp at h
  | y :: l, 0, x, h => by simp at h; subst h; rfl
  | y :: l, i + 1, x, h => by
    rw [show (i + 1) * 2 = i * 2 + 1 + 1 by omega]
    show (y.1 :: y.2 :: row2 l)[i * 2 + 1 + 1]? = _
    rw [List.getElem?_cons_succ, List.getElem?_cons_succ]
    exact row2_get0 (by simpa using h)
theorem row2_get1 : ∀ {l : List (AV × AV)} {i : Nat} {x : AV × AV}, l[i]? = some x → (row2 l)[i * 2 + 1]? = some x.2
  | [], i, x, h => by simp at h
  | y :: l, 0, x, h => by simp at h; subst h; rfl
  | y :: l, i + 1, x, h => by
    rw [show (i + 1) * 2 + 1 = (i * 2 + 1) + 1 + 1 by omega]
    show (y.1 :: y.2 :: row2 l)[(i * 2 + 1) + 1 + 1]? = _
    rw [List.getElem?_cons_succ, List.getElem?_cons_succ]
    exact row2_get1 (by simpa using h)
theorem row2_set0 : ∀ (l : List (AV × AV)) (i : Nat) (x : AV × AV) (a : AV), l[i]? = some x → (row2 l).set (i * 2) a = row2 (l.set i (a, x.2))
  | [], i, x, a, h => by simp at h
  | y :: l, 0, x, a, h => by simp at h; subst h; rfl
  | y :: l, i + 1, x, a, h => by
    rw [show (i + 1) * 2 = i * 2 + 1 + 1 by omega]
    show (y.1 :: y.2 :: row2 l).set (i * 2 + 1 + 1) a = y.1 :: y.2 :: row2 (l.set i (a, x.2))
    rw [List.set_cons_succ, List.set_cons_succ, row2_set0 l i x a (by simpa using h)]
theorem row2_set1 : ∀ (l : List (AV × AV)) (i : Nat) (x : AV × AV) (a : AV), l[i]? = some x → (row2 l).set (i * 2 + 1) a = row2 (l.set i (x.1, a))
  | [], i, x, a, h => by simp at h
  | y :: l, 0, x, a, h => by simp at h; subst h; rfl
  | y :: l, i + 1, x, a, h => by
    rw [show (i + 1) * 2 + 1 = (i * 2 + 1) + 1 + 1 by omega]
    show (y.1 :: y.2 :: row2 l).set ((i * 2 + 1) + 1 + 1) a = y.1 :: y.2 :: row2 (l.set i (x.1, a))
    rw [List.set_cons_succ, List.set_cons_succ, row2_set1 l i x a (by simpa using h)]
theorem tkRow_eq : ∀ l : List Tk, tkE.row l = row2 (l.map fun t => (.bool t.on, nmE.lst t.ns))
  | [] => rfl
  | t :: l => by rw [Enc.row_cons, tkRow_eq l]; rfl
/-- The first k of them have names of their own. -/
structure TkO (m : Nat) (H : Heap) (p k : Nat) (ps : List (AV × AV)) (l : List Tk) : Prop where
  len : ps.length = l.length
  ge : m ≤ p
  blk : ∃ st rest, H[p]? = some (⟨row2 ps ++ rest, 2, st⟩ : Blk) ∧ st.own = true
  el : ∀ (i : Nat) x t, ps[i]? = some x → l[i]? = some t → x.1 = .bool t.on ∧ (k ≤ i → x.2 = nmE.lst t.ns) ∧ (i < k → OwnE nmE m H x.2 t.ns) ∧ x.2.blk ≠ some p
  dis : ∀ (i j : Nat) x y b, i ≠ j → ps[i]? = some x → ps[j]? = some y → x.2.blk = some b → y.2.blk ≠ some b
section
variable {m p k : Nat} {H : Heap} {ps : List (AV × AV)} {l : List Tk} {T' : TypeId → Option TD}
theorem TkO.get (o : TkO m H p k ps l) {i : Nat} (h : i < l.length) : ∃ x, ps[i]? = some x ∧ l[i]? = some l[i] ∧ x.1 = .bool l[i].on :=
  ⟨_, List.getElem?_eq_getElem (by rw [o.len]; exact h), List.getElem?_eq_getElem h, (o.el i _ _ (List.getElem?_eq_getElem (by rw [o.len]; exact h)) (List.getElem?_eq_getElem h)).1⟩
theorem TkO.start {v : AV} (o : OwnE tkE m H v l) (h : 1 ≤ l.length) : ∃ p ps, v = .sl p 0 l.length none ∧ TkO m H p 0 ps l := by
  rcases o with ⟨rfl, h0⟩ | ⟨b, n, st, rest, rfl, h1, h2, h4, h3⟩
  · have := Enc.row_length (E := tkE) l
    rw [h0] at this
    have e : tkE.sz = 2 := rfl
    rw [e] at this; simp at this; omega
  · rw [Enc.row_length] at h3
    have e : tkE.sz = 2 := rfl
    rw [e] at h3 h2
    have hn : l.length = n := by omega
    subst hn
    refine ⟨b, l.map fun t => (.bool t.on, nmE.lst t.ns), rfl, List.length_map _, h1, ⟨st, rest, by rw [h2, tkRow_eq], h4⟩, fun i x t hx ht => ?_, fun i j x y b' _ hx hy hb => ?_⟩
    · rw [List.getElem?_map, ht] at hx
      simp only [Option.map_some, Option.some.injEq] at hx
      subst hx
      exact ⟨rfl, fun _ => rfl, fun h => absurd h (Nat.not_lt_zero _), by simp [Enc.lst, AV.blk]⟩
    · rw [List.getElem?_map] at hx
      cases ht : l[i]? with
      | none => rw [ht] at hx; cases hx
      | some t => rw [ht] at hx; simp only [Option.map_some, Option.some.injEq] at hx; subst hx; simp [Enc.lst, AV.blk] at hb
theorem TkO.addr {t e : TypeId} (he : asliceElem T' t = some (e, 2)) {i n : Nat} (hi : i < n) : aindexAddr T' t (.sl p 0 n none) (.int .i64 (i : Int)) = some (.ptr p (i * 2)) := by
  simp only [aindexAddr, he]
  rw [if_pos ⟨by omega, by omega⟩, Int.toNat_natCast, Nat.zero_add]
theorem TkO.lt (o : TkO m H p k ps l) : p < H.length := by
  obtain ⟨st, rest, h, -⟩ := o.blk
  exact (List.getElem?_eq_some_iff.1 h).1
theorem TkO.read2 (o : TkO m H p k ps l) {i : Nat} {x : AV × AV} (hx : ps[i]? = some x) : H.read p (i * 2) 2 = some [x.1, x.2] := by
  obtain ⟨st, rest, h, h2⟩ := o.blk
  have hi : i < ps.length := (List.getElem?_eq_some_iff.1 hx).1
  have hl := row2_len ps
  unfold Heap.read
  rw [h]
  simp only [own_alive h2, true_and]
  rw [if_pos (by rw [List.length_append]; omega)]
  simp only [Option.some.injEq]
  have g0 := row2_get0 hx
  have g1 := row2_get1 hx
  obtain ⟨a0, e0⟩ := List.getElem?_eq_some_iff.1 g0
  obtain ⟨a1, e1⟩ := List.getElem?_eq_some_iff.1 g1
  rw [List.drop_append_of_le_length (by omega), List.take_append_of_le_length (by rw [List.length_drop]; omega), List.drop_eq_getElem_cons a0, List.drop_eq_getElem_cons a1, e0, e1]
  rfl
theorem TkO.readN (o : TkO m H p k ps l) {i : Nat} {x : AV × AV} (hx : ps[i]? = some x) : H.read p (i * 2 + 1) 1 = some [x.2] := read_sub (o.read2 hx) 1 1 (by omega)
theorem TkO.readOn (o : TkO m H p k ps l) {i : Nat} {x : AV × AV} (hx : ps[i]? = some x) : H.read p (i * 2) 1 = some [x.1] := read_sub (o.read2 hx) 0 1 (by omega)
/-- One of them is written. -/
theorem TkO.upd (o : TkO m H p k ps l) {i : Nat} {x y : AV × AV} {t t2 : Tk} (hx : ps[i]? = some x) (ht : l[i]? = some t) {k2 : Nat} (hk : (k2 = k ∧ i < k) ∨ (k2 = k + 1 ∧ i = k)) {H2 : Heap}
    (kk : ∀ b, b = p ∨ (∃ j z, j ≠ i ∧ ps[j]? = some z ∧ z.2.blk = some b) → H2[b]? = H[b]?) (hon : y.1 = .bool t2.on) (o2 : OwnE nmE m H2 y.2 t2.ns)
    (hb : ∀ b, y.2.blk = some b → b ≠ p ∧ ∀ j z, j ≠ i → ps[j]? = some z → z.2.blk ≠ some b) (rest : List AV) (st : St) (hst : st.own = true) : TkO m (List.set H2 p ⟨row2 (ps.set i y) ++ rest, 2, st⟩) p k2 (ps.set i y) (l.set i t2) := by
  have hi : i < ps.length := (List.getElem?_eq_some_iff.1 hx).1
  obtain ⟨st0, rest0, h0, -⟩ := o.blk
  have hp2 : p < H2.length := by
    have h1 := kk p (.inl rfl)
    rw [h0] at h1
    exact (List.getElem?_eq_some_iff.1 h1).1
  have own : ∀ {v : AV} {ns : List Nm} {G : Heap}, OwnE nmE m G v ns → v.blk ≠ some p → (∀ b, v.blk = some b → H2[b]? = G[b]?) → OwnE nmE m (List.set H2 p ⟨row2 (ps.set i y) ++ rest, 2, st⟩) v ns := by
    intro v ns G ho hv hs
    rcases ho with ho | ⟨b, n, st1, rest1, rfl, h1, h2, h4⟩
    · exact .inl ho
    · refine .inr ⟨b, n, st1, rest1, rfl, h1, ?_, h4⟩
      rw [List.getElem?_set_ne (fun e => hv (by rw [e]; rfl)), hs b rfl]; exact h2
  refine ⟨by rw [List.length_set, List.length_set]; exact o.len, o.ge, ⟨st, rest, List.getElem?_set_self hp2, hst⟩, fun j z u hz hu => ?_, fun j j2 z z2 b hne hz hz2 hzb => ?_⟩
  · by_cases e : i = j
    · subst e
      rw [List.getElem?_set_self hi] at hz
      rw [List.getElem?_set_self (by rw [← o.len]; exact hi)] at hu
      simp only [Option.some.injEq] at hz hu
      subst hz; subst hu
      refine ⟨hon, fun h => by omega, fun h => own o2 (fun e => (hb _ e).1 rfl) (fun b _ => rfl), fun e => (hb _ e).1 rfl⟩
    · rw [List.getElem?_set_ne e] at hz hu
      obtain ⟨g1, g2, g3, g4⟩ := o.el j z u hz hu
      exact ⟨g1, fun h => g2 (by omega), fun h => own (g3 (by omega)) g4 (fun b hb => kk b (.inr ⟨j, z, fun e2 => e e2.symm, hz, hb⟩)), g4⟩
  · by_cases e : i = j
    · subst e
      rw [List.getElem?_set_self hi] at hz
      rw [List.getElem?_set_ne hne] at hz2
      simp only [Option.some.injEq] at hz
      subst hz
      exact (hb b hzb).2 j2 z2 (fun e => hne e.symm) hz2
    · rw [List.getElem?_set_ne e] at hz
      by_cases e2 : i = j2
      · subst e2
        rw [List.getElem?_set_self hi] at hz2
        simp only [Option.some.injEq] at hz2
        subst hz2
        exact fun hh => (hb b hh).2 j z (fun e => hne e) hz hzb
      · rw [List.getElem?_set_ne e2] at hz2
        exact o.dis j j2 z z2 b hne hz hz2 hzb
theorem TkO.storeN (o : TkO m H p k ps l) {i : Nat} {x : AV × AV} (hx : ps[i]? = some x) {H2 : Heap} (h2 : H2[p]? = H[p]?) {te : TypeId} (hte : asize T' te = some 1) {s : AV} (hs : s.one = true) (hso : s.solid = true) (hc : s.cells = [s]) :
    ∃ st rest, st.own = true ∧ astore T' H2 te (.ptr p (i * 2 + 1)) s = some (List.set H2 p ⟨row2 (ps.set i (x.1, s)) ++ rest, 2, st⟩) := by
  obtain ⟨st, rest, h, hst⟩ := o.blk
  have hi : i < ps.length := (List.getElem?_eq_some_iff.1 hx).1
  have hl := row2_len ps
  refine ⟨st, rest, hst, ?_⟩
  simp only [astore, hte, h2, h, hst, hso, hc, List.length_cons, List.length_nil, true_and]
  rw [if_pos (by rw [List.length_append]; omega), wr_left _ _ _ _ (by simp; omega), wr_one _ _ _ (by omega), row2_set1 _ _ _ _ hx]
theorem TkO.storeOn (o : TkO m H p k ps l) {i : Nat} {x : AV × AV} (hx : ps[i]? = some x) {H2 : Heap} (h2 : H2[p]? = H[p]?) {te : TypeId} (hte : asize T' te = some 1) (c : Bool) :
    ∃ st rest, st.own = true ∧ astore T' H2 te (.ptr p (i * 2)) (.bool c) = some (List.set H2 p ⟨row2 (ps.set i (.bool c, x.2)) ++ rest, 2, st⟩) := by
  obtain ⟨st, rest, h, hst⟩ := o.blk
  have hi : i < ps.length := (List.getElem?_eq_some_iff.1 hx).1
  have hl := row2_len ps
  refine ⟨st, rest, hst, ?_⟩
  have c1 : (AV.bool c).solid = true := rfl
  have c2 : (AV.bool c).cells = [.bool c] := rfl
  simp only [astore, hte, h2, h, hst, c1, c2, List.length_cons, List.length_nil, true_and]
  rw [if_pos (by rw [List.length_append]; omega), wr_left _ _ _ _ (by simp; omega), wr_one _ _ _ (by omega), row2_set0 _ _ _ _ hx]
theorem TkO.store2 (o : TkO m H p k ps l) {i : Nat} {x : AV × AV} (hx : ps[i]? = some x) {H2 : Heap} (h2 : H2[p]? = H[p]?) {te : TypeId} (hte : asize T' te = some 2) (a b : AV) (hso : (AV.agg [a, b]).solid = true) :
    ∃ st rest, st.own = true ∧ astore T' H2 te (.ptr p (i * 2)) (.agg [a, b]) = some (List.set H2 p ⟨row2 (ps.set i (a, b)) ++ rest, 2, st⟩) := by
  obtain ⟨st, rest, h, hst⟩ := o.blk
  have hi : i < ps.length := (List.getElem?_eq_some_iff.1 hx).1
  have hl := row2_len ps
  refine ⟨st, rest, hst, ?_⟩
  have c2 : (AV.agg [a, b]).cells = [a, b] := rfl
  simp only [astore, hte, h2, h, hst, hso, c2, List.length_cons, List.length_nil, true_and]
  rw [if_pos (by rw [List.length_append]; omega), wr_left _ _ _ _ (by simp; omega)]
  have : wr (row2 ps) (i * 2) [a, b] = row2 (ps.set i (a, b)) := by
    show wr ((row2 ps).set (i * 2) a) (i * 2 + 1) [b] = _
    rw [row2_set0 _ _ _ _ hx, wr_one _ _ _ (by rw [row2_len, List.length_set]; omega), row2_set1 _ _ (a, x.2) _ (List.getElem?_set_self hi), List.set_set]
  rw [this]
theorem TkO.thaw (o : TkO m H p l.length ps l) : Thaw m H (.sl p 0 l.length none) (tkE.lst l) := by
  obtain ⟨st, rest, h, hst⟩ := o.blk
  have hl := row2_len ps
  have hlen := o.len
  refine .sl p 0 _ _ _ _ o.ge h hst ?_ fun i a c ha hc => ?_
  · rw [tkRow_eq, row2_len, List.length_map, List.length_append]; omega
  · rw [Nat.zero_add] at ha
    have hi : i < (tkE.row l).length := (List.getElem?_eq_some_iff.1 hc).1
    rw [tkRow_eq] at hc hi
    rw [row2_len, List.length_map] at hi
    rw [List.getElem?_append_left (by omega)] at ha
    have hq : i / 2 < l.length := by omega
    obtain ⟨x, hx, ht, hon⟩ := o.get hq
    have hm : (l.map fun t => ((.bool t.on, nmE.lst t.ns) : AV × AV))[i / 2]? = some (.bool l[i/2].on, nmE.lst l[i/2].ns) := by rw [List.getElem?_map, ht]; rfl
    rcases Nat.mod_two_eq_zero_or_one i with h0 | h0
    · have hi2 : i = i / 2 * 2 := by omega
      rw [hi2, row2_get0 hx] at ha
      rw [hi2, row2_get0 hm] at hc
      cases ha; cases hc
      rw [hon]; exact .atom _ rfl
    · have hi2 : i = i / 2 * 2 + 1 := by omega
      rw [hi2, row2_get1 hx] at ha
      rw [hi2, row2_get1 hm] at hc
      cases ha; cases hc
      exact ((o.el _ _ _ hx ht).2.2.1 hq).thaw (by decide)
end
end Go.Proofs.Ytccfhighlpfdmaa

