import Derived.Test.YtkmkhiipiflelaaPiI
/-! PI, part J: regions that draw their order. -/
set_option linter.unusedVariables false
set_option linter.unusedSimpArgs false
namespace Go.Proofs.PI
open Go.RowKit

/-! ### Only the operands count -/
section
variable {P : Program} {T : TypeId → Option TD}
theorem map_ev {ev ev' : Operand → AV} {l : List Operand} (h : ∀ x ∈ l, ev x = ev' x) : l.map ev = l.map ev' := List.map_congr_left h
theorem pairs_ev {ev ev' : Operand → AV} {l : List (Nat × Operand)} (h : ∀ x ∈ l.map (·.2), ev x = ev' x) : l.map (fun p => (p.1, ev p.2)) = l.map (fun p => (p.1, ev' p.2)) :=
  List.map_congr_left fun p hp => by rw [h p.2 (List.mem_map.2 ⟨p, hp, rfl⟩)]
theorem apure_congr {ev ev' : Operand → AV} {op : Op} (h : ∀ x ∈ op.operands, ev x = ev' x) : apure T ev op = apure T ev' op := by
  unfold apure
  split <;> simp only [Op.operands, Call.operands] at h
  · rw [h _ (by simp)]
  · rw [h _ (by simp)]
  · rename_i c a b
    rw [h c (by simp), h a (by simp), h b (by simp)]
  · rw [h _ (by simp)]
  · rename_i op t x y u; rw [h x (by simp), h y (by simp)]
  · rw [h _ (by simp)]
  · rw [h _ (by simp)]
  · rename_i fn first caps
    rw [map_ev (l := first.toList) fun x hx => h x (by simp; exact .inl (by simpa using hx)), map_ev (l := caps.toList) fun x hx => h x (by simp; exact .inr (by simpa using hx))]
  · rw [h _ (by simp)]
  · rw [h _ (by simp)]
  · rename_i t x i; rw [h x (by simp), h i (by simp)]
  · rename_i t x i; rw [h x (by simp), h i (by simp)]
  · rw [h _ (by simp)]
  · rename_i t parts
    rw [pairs_ev (l := parts.toList) fun x hx => h x (by simpa using hx)]
  · rename_i args ts
    split
    · rename_i x t ha ht
      rw [h x (by have : x ∈ args.toList := by rw [ha]; simp
                  simpa using this)]
    · rfl
  · rename_i args ts
    rw [map_ev (l := args.toList) fun x hx => h x (by simpa using hx)]
  · rename_i args ts
    rw [map_ev (l := args.toList) fun x hx => h x (by simpa using hx)]
  · rfl
theorem aalloc_congr {ev ev' : Operand → AV} {op : Op} (h : ∀ x ∈ op.operands, ev x = ev' x) : aalloc T ev op = aalloc T ev' op := by
  unfold aalloc
  split <;> simp only [Op.operands] at h
  · rfl
  · rw [h _ (by simp)]
  · rename_i t len parts
    rw [pairs_ev (l := parts.toList) fun x hx => h x (by simpa using hx)]
  · rename_i t l c; rw [h l (by simp), h c (by simp)]
  · rw [h _ (by simp)]
  · rfl
theorem WOp_congr {ev ev' : Operand → AV} {o : Oper} {H : Heap} {K : AV → Heap → Prop} (h : ∀ x ∈ o.op.operands, ev x = ev' x) : WOp P T ev o H K = WOp P T ev' o H K := by
  unfold WOp
  split <;> (try (rename_i ho; rw [ho] at h))
  · rename_i t x v; simp only [Op.operands] at h; rw [h x (by simp), h v (by simp)]
  · simp only [Op.operands] at h; rw [h _ (by simp)]
  · rename_i t x lo hi mx
    simp only [Op.operands] at h
    have e1 : lo.map ev = lo.map ev' := by
      cases lo with
      | none => rfl
      | some y => simp only [Option.map_some]; rw [h y (by simp)]
    have e2 : hi.map ev = hi.map ev' := by
      cases hi with
      | none => rfl
      | some y => simp only [Option.map_some]; rw [h y (by simp)]
    have e3 : mx.map ev = mx.map ev' := by
      cases mx with
      | none => rfl
      | some y => simp only [Option.map_some]; rw [h y (by simp)]
    rw [h x (by simp), e1, e2, e3]
  · rw [aalloc_congr h]
  · rw [aalloc_congr h]
  · rw [aalloc_congr h]
  · rw [aalloc_congr h]
  · rename_i src dst x
    rw [aalloc_congr h]
    simp only [Op.operands] at h
    rw [h x (by simp)]
  · rename_i c
    unfold WCall
    have hap := apure_congr (T := T) h
    simp only [Op.operands, Call.operands] at h
    split
    · rename_i f hc
      rw [hc] at h
      rw [h f (by simp), map_ev (l := c.args.toList) fun x hx => h x (by simp; exact .inr (by simpa using hx))]
    · split
      · rename_i s x t tx ha _
        have hm : ∀ y ∈ c.args.toList, ev y = ev' y := fun y hy => h y (by simp; exact .inr (by simpa using hy))
        rw [hm s (by rw [ha]; simp), hm x (by rw [ha]; simp)]
      · rfl
    · split
      · rename_i x t ha _
        have hm : ∀ y ∈ c.args.toList, ev y = ev' y := fun y hy => h y (by simp; exact .inr (by simpa using hy))
        rw [hm x (by rw [ha]; simp)]
      · rfl
    · rw [ho, hap]
  · rename_i t x k
    simp only [Op.operands] at h
    rw [h x (by simp), h k (by simp)]
  · rename_i t m k v
    simp only [Op.operands] at h
    rw [h m (by simp), h k (by simp), h v (by simp)]
  · rw [apure_congr h]
end

/-! ### What comes before what -/
def edgesOf (o : Oper) : List Nat := (o.after.toList.filter (Region.binds .any)).map (·.on)
/-- Masks of what must come before each operation. -/
def maskStep (acc : List Nat) (o : Oper) : List Nat := acc ++ [(edgesOf o).foldl (fun s e => s ||| 2 ^ e ||| acc.getD e 0) 0]
def masks (ops : List Oper) : List Nat := ops.foldl maskStep []
def cl (ms : List Nat) (j i : Nat) : Bool := (ms.getD i 0).testBit j

/-- A set of operations that holds what its members' edges name. -/
def Closed (ops : List Oper) (E : Nat → Prop) : Prop := ∀ i o, ops[i]? = some o → E i → ∀ e ∈ edgesOf o, E e

theorem fold_bits (acc : List Nat) (Pj : Nat → Prop) (h : ∀ e j, (acc.getD e 0).testBit j = true → Pj e → Pj j) : ∀ (l : List Nat) (s : Nat), (∀ j, s.testBit j = true → Pj j) → (∀ e ∈ l, Pj e) →
    ∀ j, (l.foldl (fun s e => s ||| 2 ^ e ||| acc.getD e 0) s).testBit j = true → Pj j
  | [], s, hs, _, j, hj => hs j hj
  | e :: l, s, hs, hl, j, hj => by
    refine fold_bits acc Pj h l _ (fun k hk => ?_) (fun x hx => hl x (by simp [hx])) j hj
    simp only [Nat.testBit_or, Bool.or_eq_true, Nat.testBit_two_pow] at hk
    rcases hk with (hk | hk) | hk
    · exact hs k hk
    · simp at hk; subst hk; exact hl e (by simp)
    · exact h e k hk (hl e (by simp))
def GoodM (E : Nat → Prop) (pre : List Oper) (acc : List Nat) : Prop :=
  acc.length = pre.length ∧ ∀ (i j : Nat) (o : Oper), pre[i]? = some o → (acc.getD i 0).testBit j = true → (∀ e ∈ edgesOf o, E e) → E j
theorem goodM_step (ops : List Oper) (E : Nat → Prop) (hE : Closed ops E) (pre : List Oper) (o : Oper) (post : List Oper) (acc : List Nat) (hops : ops = pre ++ o :: post) (h : GoodM E pre acc) : GoodM E (pre ++ [o]) (maskStep acc o) := by
  obtain ⟨hlen, ih⟩ := h
  refine ⟨by simp [maskStep, hlen], fun i j q hq hb hedge => ?_⟩
  have hin : ∀ e k, (acc.getD e 0).testBit k = true → E e → E k := fun e k hb he => by
    by_cases hlt : e < pre.length
    · have hpe : pre[e]? = some pre[e] := List.getElem?_eq_getElem hlt
      refine ih e k pre[e] hpe hb fun x hx => hE e pre[e] ?_ he x hx
      rw [hops, List.getElem?_append_left hlt]; exact hpe
    · rw [List.getD_eq_getElem?_getD, List.getElem?_eq_none (by omega)] at hb; simp at hb
  by_cases hi : i < pre.length
  · have e1 : (maskStep acc o).getD i 0 = acc.getD i 0 := by
      rw [maskStep, List.getD_eq_getElem?_getD, List.getElem?_append_left (by omega), ← List.getD_eq_getElem?_getD]
    rw [e1] at hb
    rw [List.getElem?_append_left hi] at hq
    exact ih i j q hq hb hedge
  · have hi2 : i = pre.length := by
      have := (List.getElem?_eq_some_iff.1 hq).1
      simp at this; omega
    subst hi2
    rw [List.getElem?_append_right (Nat.le_refl _)] at hq
    simp at hq; subst hq
    have e1 : (maskStep acc o).getD pre.length 0 = (edgesOf o).foldl (fun s e => s ||| 2 ^ e ||| acc.getD e 0) 0 := by
      rw [maskStep, List.getD_eq_getElem?_getD, List.getElem?_append_right (by omega), hlen]; simp
    rw [e1] at hb
    exact fold_bits acc E hin (edgesOf o) 0 (fun k hk => by simp at hk) hedge j hb
theorem goodM_all (ops : List Oper) (E : Nat → Prop) (hE : Closed ops E) : ∀ (post pre : List Oper) (acc : List Nat), ops = pre ++ post → GoodM E pre acc → GoodM E ops (post.foldl maskStep acc)
  | [], pre, acc, hops, h => by simp at hops; subst hops; exact h
  | o :: post, pre, acc, hops, h => goodM_all ops E hE post (pre ++ [o]) _ (by simp [hops]) (goodM_step ops E hE pre o post acc hops h)
theorem masks_sound (ops : List Oper) (E : Nat → Prop) (hE : Closed ops E) (i j : Nat) (o : Oper) (ho : ops[i]? = some o) (hc : cl (masks ops) j i = true) (hedge : ∀ e ∈ edgesOf o, E e) : E j :=
  (goodM_all ops E hE ops [] [] rfl ⟨rfl, fun i j o h => by simp at h⟩).2 i j o ho hc hedge

/-! ### The plan -/
def isEff : Op → Bool
  | .store .. => true
  | .makeMap .. | .lookup .. | .mapUpdate .. => true
  | .call c => match c.callee with
    | .value _ => true
    | .builtin .append => true
    | .builtin .clear => true
    | _ => false
  | _ => false
def effAt (ops : List Oper) (i : Nat) : Bool := match ops[i]? with
  | some o => isEff o.op
  | none => false
/-- What an operation reads of the frame. -/
def looks (ops : List Oper) (o : Oper) : List Tmp :=
  (o.op.operands.toList.filterMap fun | .tmp t => some t | _ => none) ++ (match o.guard with
    | some (g, _) => ((ops[g]?).bind (·.dst)).toList
    | none => [])
/-- Neither touches what the other reads or writes. -/
def apartB (ops : List Oper) (o u : Oper) : Bool :=
  (match o.dst with
    | some d => !(looks ops u).contains d && u.dst != some d
    | none => true) &&
  (match u.dst with
    | some d => !(looks ops o).contains d
    | none => true)
def pairOk (ops : List Oper) (ms : List Nat) (j i : Nat) : Bool := j != i && (cl ms j i || (match ops[j]?, ops[i]? with
  | some o, some u => apartB ops o u
  | _, _ => false))
def pairsOk (ops : List Oper) (ms : List Nat) : List Nat → Bool
  | [] => true
  | j :: l => l.all (pairOk ops ms j) && pairsOk ops ms l
def chainOk (ops : List Oper) (ms : List Nat) : Option Nat → List Nat → Bool
  | _, [] => true
  | le, i :: l => (match le with
    | none => true
    | some e => cl ms e i) && chainOk ops ms (if effAt ops i = true then some i else le) l
def edgesOk (ops : List Oper) : List Nat → List Nat → Bool
  | _, [] => true
  | done, i :: l => (match ops[i]? with
    | some o => (edgesOf o).all done.contains
    | none => false) && edgesOk ops (i :: done) l
def planOk (ops : List Oper) (ms : List Nat) (plan : List Nat) : Bool :=
  (List.range ops.length).all (fun i => plan.contains i) && pairsOk ops ms plan && chainOk ops ms none plan && edgesOk ops [] plan

/-- What each step of the plan is: an effect says which of the steps ahead of it are surely over. -/
def mkSteps (ops : List Oper) (ms : List Nat) : List Nat → List Nat → List (Oper × Option (List Bool))
  | _, [] => []
  | done, i :: l => match ops[i]? with
    | some o => (o, if isEff o.op = true then some (done.map fun j => cl ms j i) else none) :: mkSteps ops ms (i :: done) l
    | none => []

/-! ### What a step leaves to be looked at again -/
inductive RC where
  | pure
  | load (t : TypeId) (p v : AV)
  | slice (t : TypeId) (x : AV) (lo hi mx : Option AV) (v : AV)
  | bytes (src dst : TypeId) (x v : AV)
  | blk (s : Nat) (H : Heap)
def RC.ok (T : TypeId → Option TD) (H : Heap) : RC → Prop
  | .pure => True
  | .load t p v => aload T H t p = some v
  | .slice t x lo hi mx v => aslice T H t x lo hi mx = some v
  | .bytes src dst x v => abytesStr T H src dst x = some v
  | .blk s H₀ => H[s]? = H₀[s]?
def mkRC (T : TypeId → Option TD) (ev : Operand → AV) (v : AV) (s : Nat) (H : Heap) : Op → RC
  | .load t x => .load t (ev x) v
  | .slice t x lo hi mx => .slice t (ev x) (lo.map ev) (hi.map ev) (mx.map ev) v
  | .alloc _ => .blk s H
  | .box _ _ => .blk s H
  | .buildSlice .. => .blk s H
  | .makeSlice .. => .blk s H
  | .convert src dst x => match tk T src, tk T dst with
    | .slice _, .str => .bytes src dst (ev x) v
    | .str, .slice _ => .blk s H
    | _, _ => .pure
  | _ => .pure
def keepAll (T : TypeId → Option TD) : List Bool → List RC → Heap → Prop
  | false :: fl, r :: rs, H => r.ok T H ∧ keepAll T fl rs H
  | true :: fl, _ :: rs, H => keepAll T fl rs H
  | _, _, _ => True
def drK (R : List RC → Fr → Heap → (Fr → Heap → Prop) → Prop) (T : TypeId → Option TD) (fr : Fr) (o : Oper) (s : Nat) (rs : List RC) (Q : Fr → Heap → Prop) (v : AV) (H' : Heap) : Prop :=
  R (mkRC T fr.ev v s H' o.op :: rs) (fr.put o.dst v) H' Q
def drU (R : List RC → Fr → Heap → (Fr → Heap → Prop) → Prop) (fr : Fr) (o : Oper) (rs : List RC) (Q : Fr → Heap → Prop) (H : Heap) : Prop := R (.pure :: rs) (fr.put o.dst (.tup [])) H Q
def efK (R : List RC → Fr → Heap → (Fr → Heap → Prop) → Prop) (T : TypeId → Option TD) (fl : List Bool) (fr : Fr) (o : Oper) (rs : List RC) (Q : Fr → Heap → Prop) (v : AV) (H' : Heap) : Prop :=
  keepAll T fl rs H' ∧ R (.pure :: rs) (fr.put o.dst v) H' Q
def WD (P : Program) (T : TypeId → Option TD) (n : Nat) (all : List Oper) : List (Oper × Option (List Bool)) → List RC → Fr → Heap → (Fr → Heap → Prop) → Prop
  | [], _, fr, H, Q => Q fr H
  | (o, none) :: l, rs, fr, H, Q => dstOk n o ∧ Guard (wantd all fr o) (opH P T fr.ev o (drK (WD P T n all l) T fr o H.length rs Q)) (drU (WD P T n all l) fr o rs Q) H
  | (o, some fl) :: l, rs, fr, H, Q => dstOk n o ∧ Guard (wantd all fr o) (opH P T fr.ev o (efK (WD P T n all l) T fl fr o rs Q)) (drU (WD P T n all l) fr o rs Q) H

/-! ### A heap that has grown -/
theorem read_snoc' {H : Heap} {b o n : Nat} {l : List AV} (B : Blk) (h : H.read b o n = some l) : (H ++ [B] : Heap).read b o n = some l := by
  unfold Heap.read at h ⊢
  split at h
  · rename_i C hC
    have : (H ++ [B])[b]? = some C := by rw [List.getElem?_append_left (List.getElem?_eq_some_iff.1 hC).1]; exact hC
    rw [this]; exact h
  · cases h
theorem aload_snoc {T : TypeId → Option TD} {H : Heap} {t : TypeId} {x v : AV} (B : Blk) (h : aload T H t x = some v) : aload T (H ++ [B]) t x = some v := by
  unfold aload at h ⊢
  split at h
  · rename_i b o d hd
    split at h
    · cases hr : H.read b o d.size with
      | none => rw [hr] at h; cases h
      | some l => rw [hr] at h; rw [read_snoc' B hr]; exact h
    · cases hr : H.read b o 1 with
      | none => rw [hr] at h; cases h
      | some l => rw [hr] at h; rw [read_snoc' B hr]; exact h
    · cases h
  · exact h
  · cases h
theorem abytesStr_snoc {T : TypeId → Option TD} {H : Heap} {src dst : TypeId} {x v : AV} (B : Blk) (h : abytesStr T H src dst x = some v) : abytesStr T (H ++ [B]) src dst x = some v := by
  unfold abytesStr at h ⊢
  split at h
  · rename_i e n he hk
    split at h
    · exact h
    · exact h
    · rename_i b o len cap hke
      cases hr : H.read b o len with
      | none => rw [hr] at h; cases h
      | some l => rw [hr] at h; rw [read_snoc' B hr]; exact h
    · exact h
    · exact h
    · cases h
  · cases h
theorem roomOf_snoc {H : Heap} {b o sz len n : Nat} {cap : Option Nat} (B : Blk) (h : roomOf H b o sz len cap n = true) : roomOf (H ++ [B]) b o sz len cap n = true := by
  unfold roomOf at h ⊢
  split at h
  · exact h
  · simp only [Bool.or_eq_true] at h ⊢
    rcases h with h | h
    · exact .inl h
    · refine .inr ?_
      split at h
      · rename_i C hC
        have : (H ++ [B])[b]? = some C := by rw [List.getElem?_append_left (List.getElem?_eq_some_iff.1 hC).1]; exact hC
        rw [this]; exact h
      · cases h
theorem eszOk_snoc {H : Heap} {b sz : Nat} (B : Blk) (h : eszOk H b sz = true) : eszOk (H ++ [B]) b sz = true := by
  unfold eszOk at h ⊢
  split at h
  · rename_i C hC
    have : (H ++ [B])[b]? = some C := by rw [List.getElem?_append_left (List.getElem?_eq_some_iff.1 hC).1]; exact hC
    rw [this]; exact h
  · cases h
theorem aslice_snoc {T : TypeId → Option TD} {H : Heap} {t : TypeId} {x v : AV} {lo hi mx : Option AV} (B : Blk) (h : aslice T H t x lo hi mx = some v) : aslice T (H ++ [B]) t x lo hi mx = some v := by
  unfold aslice at h ⊢
  split at h
  · exact h
  · exact h
  · exact h
  · exact h
  · exact h
  · rename_i b o len cap
    split at h
    · rename_i e sz l hh he hl hhi
      split at h
      · split at h
        · rename_i hc
          rw [if_pos ⟨hc.1, roomOf_snoc B hc.2.1, eszOk_snoc B hc.2.2⟩]; exact h
        · cases h
      · split at h
        · rename_i hc
          rw [if_pos ⟨hc.1, hc.2.1, hc.2.2.1, hc.2.2.2.1, roomOf_snoc B hc.2.2.2.2⟩]; exact h
        · cases h
      · cases h
    · cases h
  · cases h
theorem RC.ok_snoc {T : TypeId → Option TD} {H : Heap} (B : Blk) {r : RC} (hs : ∀ s H₀, r = .blk s H₀ → s < H.length) (h : r.ok T H) : r.ok T (H ++ [B]) := by
  cases r with
  | pure => trivial
  | load t p v => exact aload_snoc B h
  | slice t x lo hi mx v => exact aslice_snoc B h
  | bytes src dst x v => exact abytesStr_snoc B h
  | blk s H₀ => simp only [RC.ok] at h ⊢; rw [List.getElem?_append_left (hs s H₀ rfl)]; exact h
end Go.Proofs.PI

