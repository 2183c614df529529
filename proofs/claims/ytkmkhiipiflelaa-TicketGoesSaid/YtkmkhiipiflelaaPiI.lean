import Derived.Test.YtkmkhiipiflelaaPiMp
/-! PI, part I: triples. `WC f args H Q`: the call returns, and Q holds of what it returns and of the abstract heap behind it. `WX n c fr H Q`: the same of code. -/
set_option linter.unusedVariables false
set_option linter.unusedSimpArgs false
namespace Go.Proofs.PI
open Go.RowKit

def callable (P : Program) (f : FuncId) : Prop := ∃ fn, P.funcs[f]? = some fn ∧ fn.name ≠ "runtime.NumGoroutine" ∧ fn.body ≠ none

def WC (P : Program) (f : FuncId) (args : List AV) (H : Heap) (Q : AV → Heap → Prop) : Prop :=
  callable P f ∧ ∀ base φ w vs, Rel base φ H w → RVs φ args vs → Calls P f vs.toArray w fun e w' =>
    ∃ v r H' φ', e = .returned v ∧ RV φ' r v ∧ Rel base φ' H' w' ∧ Ext base φ H w φ' H' w' ∧ Q r H'

def WX (P : Program) (n : Nat) (c : Code) (fr : Fr) (H : Heap) (Q : Exit → Fr → Heap → Prop) : Prop :=
  ∀ base φ w a, Rel base φ H w → FRel φ n fr a → c.wp P (fun e a' w' => ∃ fr' H' φ', Rel base φ' H' w' ∧ FRel φ' n fr' a' ∧ Ext base φ H w φ' H' w' ∧ Q e fr' H') a w

theorem WC.mono {P : Program} {f : FuncId} {args : List AV} {H : Heap} {Q R : AV → Heap → Prop} (h : WC P f args H Q) (hq : ∀ r H', Q r H' → R r H') : WC P f args H R :=
  ⟨h.1, fun base φ w vs hr hv => (h.2 base φ w vs hr hv).mono fun e w' ⟨v, r, H', φ', h1, h2, h3, h4, h5⟩ => ⟨v, r, H', φ', h1, h2, h3, h4, hq _ _ h5⟩⟩
theorem WX.mono {P : Program} {n : Nat} {c : Code} {fr : Fr} {H : Heap} {Q R : Exit → Fr → Heap → Prop} (h : WX P n c fr H Q) (hq : ∀ e fr' H', Q e fr' H' → R e fr' H') : WX P n c fr H R :=
  fun base φ w a hr hf => Code.wp_mono (fun e a' w' ⟨fr', H', φ', h1, h2, h3, h4⟩ => ⟨fr', H', φ', h1, h2, h3, hq _ _ _ h4⟩) (h base φ w a hr hf)

/-! ### Operations -/
def On (x : Option (AV × Heap)) (K : AV → Heap → Prop) : Prop := match x with
  | some (v, H) => K v H
  | none => False
def On1 (x : Option AV) (K : AV → Prop) : Prop := match x with
  | some v => K v
  | none => False
def OnB (x : Option (Blk × (Nat → AV))) (K : Blk → (Nat → AV) → Prop) : Prop := match x with
  | some (B, mk) => K B mk
  | none => False
def OnH (x : Option Heap) (K : Heap → Prop) : Prop := match x with
  | some H => K H
  | none => False
def Guard (g : Option Bool) (p q : Heap → Prop) (H : Heap) : Prop := match g with
  | some true => p H
  | some false => q H
  | none => False
abbrev XP := Fr → Heap → (Exit → Fr → Heap → Prop) → Prop
def IfB (v : AV) (p q : XP) (fr : Fr) (H : Heap) (Q : Exit → Fr → Heap → Prop) : Prop := match v with
  | .bool t => if t = true then p fr H Q else q fr H Q
  | _ => False
def OnFn (v : AV) (K : FuncId → List AV → List AV → Prop) : Prop := match v with
  | .fn g first caps => K g first caps
  | _ => False
theorem On_some (v : AV) (H : Heap) (K : AV → Heap → Prop) : On (some (v, H)) K = K v H := rfl
theorem On1_some (v : AV) (K : AV → Prop) : On1 (some v) K = K v := rfl
theorem OnB_some (B : Blk) (mk : Nat → AV) (K : Blk → (Nat → AV) → Prop) : OnB (some (B, mk)) K = K B mk := rfl
theorem OnH_some (H : Heap) (K : Heap → Prop) : OnH (some H) K = K H := rfl
theorem Guard_true (p q : Heap → Prop) (H : Heap) : Guard (some true) p q H = p H := rfl
theorem Guard_false (p q : Heap → Prop) (H : Heap) : Guard (some false) p q H = q H := rfl
theorem IfB_true (p q : XP) (fr : Fr) (H : Heap) (Q : Exit → Fr → Heap → Prop) : IfB (.bool true) p q fr H Q = p fr H Q := by simp [IfB]
theorem IfB_false (p q : XP) (fr : Fr) (H : Heap) (Q : Exit → Fr → Heap → Prop) : IfB (.bool false) p q fr H Q = q fr H Q := by simp [IfB]
theorem OnFn_fn (g : FuncId) (a b : List AV) (K : FuncId → List AV → List AV → Prop) : OnFn (.fn g a b) K = K g a b := rfl
theorem IfB_split {c : Bool} {p q : XP} {fr : Fr} {H : Heap} {Q : Exit → Fr → Heap → Prop} (h1 : c = true → p fr H Q) (h2 : c = false → q fr H Q) : IfB (.bool c) p q fr H Q := by
  cases c
  · exact h2 rfl
  · exact h1 rfl
theorem IfB_dec {c : Prop} [Decidable c] {p q : XP} {fr : Fr} {H : Heap} {Q : Exit → Fr → Heap → Prop} (h1 : c → p fr H Q) (h2 : ¬ c → q fr H Q) : IfB (.bool (decide c)) p q fr H Q :=
  IfB_split (fun h => h1 (of_decide_eq_true h)) (fun h => h2 (of_decide_eq_false h))
theorem Guard_split {c : Bool} {p q : Heap → Prop} {H : Heap} (h1 : c = true → p H) (h2 : c = false → q H) : Guard (some c) p q H := by
  cases c
  · exact h2 rfl
  · exact h1 rfl

theorem Guard_not {c : Bool} {p q : Heap → Prop} {H : Heap} (h1 : c = false → p H) (h2 : c = true → q H) : Guard (some (!c)) p q H := by
  cases c
  · exact h1 rfl
  · exact h2 rfl
theorem IfB_not {c : Bool} {p q : XP} {fr : Fr} {H : Heap} {Q : Exit → Fr → Heap → Prop} (h1 : c = false → p fr H Q) (h2 : c = true → q fr H Q) : IfB (.bool (!c)) p q fr H Q := by
  cases c
  · exact h1 rfl
  · exact h2 rfl

/-! What comes behind, without a lambda: simp opens it only when it is reached. -/
def atH (K : AV → Heap → Prop) (H : Heap) (v : AV) : Prop := K v H
def undefK (K : AV → Heap → Prop) (H : Heap) : Prop := K (.tup []) H
def snocK (K : AV → Heap → Prop) (H : Heap) (B : Blk) (mk : Nat → AV) : Prop := K (mk H.length) (H ++ [B])
def callK (P : Program) (args : List AV) (H : Heap) (K : AV → Heap → Prop) (g : FuncId) (first caps : List AV) : Prop := WC P g (first ++ args ++ caps) H K
theorem atH_eq (K : AV → Heap → Prop) (H : Heap) (v : AV) : atH K H v = K v H := rfl
theorem undefK_eq (K : AV → Heap → Prop) (H : Heap) : undefK K H = K (.tup []) H := rfl
theorem snocK_eq (K : AV → Heap → Prop) (H : Heap) (B : Blk) (mk : Nat → AV) : snocK K H B mk = K (mk H.length) (H ++ [B]) := rfl
theorem callK_eq (P : Program) (args : List AV) (H : Heap) (K : AV → Heap → Prop) (g : FuncId) (first caps : List AV) : callK P args H K g first caps = WC P g (first ++ args ++ caps) H K := rfl

/-- Whether a guarded operation is carried out. -/
def wantd (all : List Oper) (fr : Fr) (o : Oper) : Option Bool :=
  match o.guard with
  | none => some true
  | some (j, want) => match (all[j]?).bind (·.dst) with
    | none => some false
    | some d => match fr.get d with
      | .bool b => some (bif want then b else !b)
      | .tup [] => some false
      | _ => none

def WCall (P : Program) (T : TypeId → Option TD) (ev : Operand → AV) (o : Oper) (c : Call) (H : Heap) (K : AV → Heap → Prop) : Prop :=
  match c.callee with
  | .value f => OnFn (ev f) (callK P (c.args.toList.map ev) H K)
  | .builtin .append => match c.args.toList, c.argTypes.toList with
    | [s, x], [t, tx] => On (aappend T H t tx (ev s) (ev x)) K
    | _, _ => False
  | .builtin .clear => match c.args.toList, c.argTypes.toList with
    | [x], [t] => OnH (aclear T H t (ev x)) (undefK K)
    | _, _ => False
  | _ => On1 (apure T ev o.op) (atH K H)

def WOp (P : Program) (T : TypeId → Option TD) (ev : Operand → AV) (o : Oper) (H : Heap) (K : AV → Heap → Prop) : Prop :=
  match o.op with
  | .store t x v => OnH (astore T H t (ev x) (ev v)) (undefK K)
  | .load t x => On1 (aload T H t (ev x)) (atH K H)
  | .slice t x lo hi mx => On1 (aslice T H t (ev x) (lo.map ev) (hi.map ev) (mx.map ev)) (atH K H)
  | .alloc e => OnB (aalloc T ev (.alloc e)) (snocK K H)
  | .box e x => OnB (aalloc T ev (.box e x)) (snocK K H)
  | .buildSlice t len parts => OnB (aalloc T ev (.buildSlice t len parts)) (snocK K H)
  | .makeSlice t l c => OnB (aalloc T ev (.makeSlice t l c)) (snocK K H)
  | .convert src dst x => match tk T src, tk T dst with
    | .slice _, .str => On1 (abytesStr T H src dst (ev x)) (atH K H)
    | .str, .slice _ => OnB (aalloc T ev (.convert src dst x)) (snocK K H)
    | _, _ => On1 (aconv T src dst (ev x)) (atH K H)
  | .call c => WCall P T ev o c H K
  | .makeMap _ none => OnB (some amake) (snocK K H)
  | .lookup t x k false => MapTy P t ∧ On1 (alookup H (ev x) (ev k)) (atH K H)
  | .mapUpdate t m k v => MapTy P t ∧ OnH (amapUpd H (ev m) (ev k) (ev v)) (undefK K)
  | op => On1 (apure T ev op) (atH K H)

def dstOk (n : Nat) (o : Oper) : Prop := match o.dst with
  | some d => d < n
  | none => True

def opH (P : Program) (T : TypeId → Option TD) (ev : Operand → AV) (o : Oper) (K : AV → Heap → Prop) (H : Heap) : Prop := WOp P T ev o H K
theorem opH_eq (P : Program) (T : TypeId → Option TD) (ev : Operand → AV) (o : Oper) (K : AV → Heap → Prop) (H : Heap) : opH P T ev o K H = WOp P T ev o H K := rfl
def opsK (R : Fr → Heap → (Fr → Heap → Prop) → Prop) (dst : Option Tmp) (fr : Fr) (Q : Fr → Heap → Prop) (v : AV) (H : Heap) : Prop := R (fr.put dst v) H Q
theorem opsK_eq (R : Fr → Heap → (Fr → Heap → Prop) → Prop) (dst : Option Tmp) (fr : Fr) (Q : Fr → Heap → Prop) (v : AV) (H : Heap) : opsK R dst fr Q v H = R (fr.put dst v) H Q := rfl
def WOps (P : Program) (T : TypeId → Option TD) (n : Nat) (all : List Oper) : List Oper → Fr → Heap → (Fr → Heap → Prop) → Prop
  | [], fr, H, Q => Q fr H
  | o :: rest, fr, H, Q => dstOk n o ∧ Guard (wantd all fr o) (opH P T fr.ev o (opsK (WOps P T n all rest) o.dst fr Q)) (opsK (WOps P T n all rest) o.dst fr Q (.tup [])) H

section
variable {P : Program} {T : TypeId → Option TD} {n : Nat}

theorem wantd_is {all : Array Oper} {φ : Ph} {fr : Fr} {a : Act} (hf : FRel φ n fr a) {o : Oper} {b : Bool} (h : wantd all.toList fr o = some b) : Region.wanted o (yielded all a.tmps) = b := by
  unfold wantd at h
  unfold Region.wanted
  cases hg : o.guard with
  | none => rw [hg] at h; simp only [Option.some.injEq] at h; exact h
  | some jw =>
    obtain ⟨j, want⟩ := jw
    rw [hg] at h
    simp only at h ⊢
    unfold yielded
    rw [Array.getElem?_toList] at h
    cases hd : (all[j]?).bind (·.dst) with
    | none => rw [hd] at h; simp only [Option.some.injEq] at h; subst h; simp
    | some d =>
      rw [hd] at h
      simp only at h
      simp only [Option.bind_some]
      by_cases hdn : d < a.tmps.size
      · have he : a.tmps[d]? = some a.tmps[d] := Array.getElem?_eq_getElem hdn
        have hr := hf.tmp d _ he
        rw [he]
        split at h
        · rename_i b' hb'
          rw [hb'] at hr
          generalize a.tmps[d] = q at hr
          cases hr
          simp only [Option.some.injEq] at h
          subst h
          cases want <;> cases b' <;> rfl
        · rename_i hb'
          rw [hb'] at hr
          obtain ⟨vs, hvs, _⟩ := RV.tup_iff.1 hr
          rw [hvs]
          simp only [Option.some.injEq] at h
          subst h
          simp
        · cases h
      · have he : a.tmps[d]? = none := Array.getElem?_eq_none (Nat.not_lt.1 hdn)
        have hr := hf.over d (by rw [← hf.size]; exact Nat.not_lt.1 hdn)
        rw [he]
        split at h
        · rename_i b' hb'
          rw [hb'] at hr
          unfold undef at hr
          cases hr
        · simp only [Option.some.injEq] at h; subst h; simp
        · cases h

/-- What an operation does, in the world. -/
theorem WOp_run (hT : TOk P T) {base : Nat} {φ : Ph} {H : Heap} {w : World} {ev : Operand → AV} {a : Act} {o : Oper} {K : AV → Heap → Prop} (h : WOp P T ev o H K) (hR : Rel base φ H w) (hev : ∀ x, RV φ (ev x) (a.eval x))
    {next : Act → World → Prop} {Q : Exit → Act → World → Prop}
    (hk : ∀ v u H' φ' w', RV φ' v u → Rel base φ' H' w' → Ext base φ H w φ' H' w' → K v H' → next (a.put o.dst u) w') : o.wp P a w next Q := by
  have pure_case : ∀ v, apure T ev o.op = some v → K v H → o.wp P a w next Q := fun v hv hK => by
    obtain ⟨u, h1, h2⟩ := apure_run (P := P) hT hev o hv
    unfold Oper.wp
    rw [h2 w]
    exact hk v u H φ w h1 hR (Ext.refl ..) hK
  have alloc_case : ∀ B mk, aalloc T ev o.op = some (B, mk) → K (mk H.length) (H ++ [B]) → o.wp P a w next Q := fun B mk hv hK => by
    obtain ⟨u, w', L, h1, h2, h3, h4⟩ := aalloc_run (P := P) hT hev o hv (hR.snoc B) (s := H.length) (by simp) hR.unmapped
    unfold Oper.wp
    rw [h1]
    exact hk _ u _ _ w' h3 h2 ⟨fun b hb => upd_other _ _ (by omega), by simp, h4, fun _ _ h => h, fun _ _ h => .inl h⟩ hK
  unfold WOp at h
  simp only [On, On1, OnB, OnH, atH, undefK, snocK] at h
  split at h
  · rename_i t x v ho
    split at h
    · rename_i H' hs
      obtain ⟨w', h1, h2, h3⟩ := astore_run hT hR hs (hev x) (hev v)
      unfold Oper.wp
      simp only [execOp, ho, Sem.run_bind, h1, Result.andThen_ok, Sem.run_pure, Oper.upon]
      have hlen : H.length = H'.length := by
        unfold astore at hs
        split at hs
        · split at hs
          · split at hs
            · simp only [Option.some.injEq] at hs; subst hs; simp
            · cases hs
          · cases hs
        · cases hs
      exact hk _ _ H' φ w' (RV.undef φ) h2 ⟨fun _ _ => rfl, Nat.le_of_eq hlen, h3, fun _ _ h => h, fun _ _ h => .inl h⟩ h
    · exact h.elim
  · rename_i t x ho
    split at h
    · rename_i v hs
      obtain ⟨u, h1, h2⟩ := aload_run hT hR hs (hev x)
      unfold Oper.wp
      simp only [execOp, ho, Sem.run_bind, h2, Result.andThen_ok, Sem.run_pure, Oper.upon]
      exact hk v u H φ w h1 hR (Ext.refl ..) h
    · exact h.elim
  · rename_i t x lo hi mx ho
    split at h
    · rename_i v hs
      have aux : ∀ (x : Option Operand), (∀ q, x.map ev = some q → ∃ v, x.map a.eval = some v ∧ RV φ q v) ∧ (x.map ev = none → x.map a.eval = none) := fun x => by
        cases x with
        | none => exact ⟨fun q hq => (by cases hq), fun _ => rfl⟩
        | some x => exact ⟨fun q hq => by simp only [Option.map_some, Option.some.injEq] at hq; subst hq; exact ⟨_, rfl, hev x⟩, fun h => by cases h⟩
      obtain ⟨u, h1, h2⟩ := aslice_run hT hR hs (hev x) (aux lo).1 (aux lo).2 (aux hi).1 (aux hi).2 (aux mx).1 (aux mx).2
      unfold Oper.wp
      simp only [execOp, ho, Sem.run_bind, h2, Result.andThen_ok, Sem.run_pure, Oper.upon]
      exact hk v u H φ w h1 hR (Ext.refl ..) h
    · exact h.elim
  · rename_i e ho
    split at h
    · rename_i B mk hs; exact alloc_case B mk (by rw [ho]; exact hs) h
    · exact h.elim
  · rename_i e x ho
    split at h
    · rename_i B mk hs; exact alloc_case B mk (by rw [ho]; exact hs) h
    · exact h.elim
  · rename_i t len parts ho
    split at h
    · rename_i B mk hs; exact alloc_case B mk (by rw [ho]; exact hs) h
    · exact h.elim
  · rename_i t l c ho
    split at h
    · rename_i B mk hs; exact alloc_case B mk (by rw [ho]; exact hs) h
    · exact h.elim
  · rename_i src dst x ho
    split at h
    · split at h
      · rename_i v hs
        obtain ⟨u, h1, h2⟩ := abytesStr_run hT hR hs (hev x)
        unfold Oper.wp
        simp only [execOp, ho, Sem.run_bind, h2, Result.andThen_ok, Sem.run_pure, Oper.upon]
        exact hk v u H φ w h1 hR (Ext.refl ..) h
      · exact h.elim
    · split at h
      · rename_i B mk hs; exact alloc_case B mk (by rw [ho]; exact hs) h
      · exact h.elim
    · split at h
      · rename_i v hs; exact pure_case v (by rw [ho]; exact hs) h
      · exact h.elim
  · rename_i c ho
    unfold WCall at h
    simp only [On, On1, OnH, OnFn, atH, callK, undefK] at h
    split at h
    · rename_i f hcal
      split at h
      · rename_i g first caps hfn
        have hfv := hev f
        rw [hfn] at hfv
        obtain ⟨vs, ws, he, hv1, hv2⟩ : ∃ vs ws : Array Value, a.eval f = .func (.func g) vs ws ∧ RVs φ first vs.toList ∧ RVs φ caps ws.toList := by
          generalize a.eval f = q at hfv
          cases hfv
          rename_i vs ws k1 k2 k3 k4
          exact ⟨vs, ws, rfl, ⟨by simpa using k1, fun i a v ha hv => k2 i a v ha (by simpa using hv)⟩, ⟨by simpa using k3, fun i a v ha hv => k4 i a v ha (by simpa using hv)⟩⟩
        obtain ⟨⟨fn, c1, c2, c3⟩, hcall⟩ := h
        have hargs : RVs φ (first ++ c.args.toList.map ev ++ caps) (vs.toList ++ c.args.toList.map a.eval ++ ws.toList) := (hv1.append (rvs_map hev _)).append hv2
        have hc := hcall base φ w _ hR hargs
        have eargs : (vs.toList ++ c.args.toList.map a.eval ++ ws.toList).toArray = vs ++ c.args.map a.eval ++ ws := by
          apply Array.ext'; simp
        rw [eargs] at hc
        unfold Oper.wp
        have hrun : (execOp a.eval o).run P w = .ok (.enter g (vs ++ c.args.map a.eval ++ ws)) w := by
          simp [execOp, ho, resolve, hcal, he, Deferred.ofValue, invoke, callFunc, c1, c2, c3]
        rw [hrun, Oper.upon_enter]
        refine hc.mono ?_
        rintro e w' ⟨v, r, H', φ', rfl, k1, k2, k3, k4⟩
        exact hk r v H' φ' w' k1 k2 k3 k4
      · exact h.elim
    · rename_i hcal
      split at h
      · rename_i s x t tx ha ht
        split at h
        · rename_i v H' hs
          obtain ⟨u, w', φ', h1, h2, h3, h4⟩ := aappend_run hT hR hs (hev s) (hev x) o.type
          have ha' : c.args = #[s, x] := by apply Array.ext'; simpa using ha
          have ht' : c.argTypes = #[t, tx] := by apply Array.ext'; simpa using ht
          unfold Oper.wp
          simp [execOp, ho, resolve, hcal, invoke, builtin, ha', ht', h1, Oper.upon]
          exact hk v u H' φ' w' h3 h2 h4 h
        · exact h.elim
      · exact h.elim
    · rename_i hcal
      split at h
      · rename_i x t ha ht
        split at h
        · rename_i H' hs
          obtain ⟨w', h1, h2, h3⟩ := aclear_run hT hR hs (hev x) o.type
          have ha' : c.args = #[x] := by apply Array.ext'; simpa using ha
          have ht' : c.argTypes = #[t] := by apply Array.ext'; simpa using ht
          unfold Oper.wp
          simp [execOp, ho, resolve, hcal, invoke, builtin, ha', ht', h1, Oper.upon]
          exact hk _ _ H' φ w' (RV.undef φ) h2 ⟨fun _ _ => rfl, Nat.le_of_eq (aclear_len hs), h3, fun _ _ h => h, fun _ _ h => .inl h⟩ h
        · exact h.elim
      · exact h.elim
    · split at h
      · rename_i v hs; exact pure_case v hs h
      · exact h.elim
  · rename_i t ho
    obtain ⟨u, w', L, h1, h2, h3, h4⟩ := amake_run (P := P) t (ρ := a.eval) ho (hR.snoc amake.1) (s := H.length) (by simp) hR.unmapped
    unfold Oper.wp
    rw [h1]
    exact hk _ u _ _ w' h3 h2 ⟨fun b hb => upd_other _ _ (by omega), by simp, h4, fun _ _ h => h, fun _ _ h => .inl h⟩ h
  · rename_i t x k ho
    obtain ⟨ht, h⟩ := h
    split at h
    · rename_i v hs
      obtain ⟨u, h1, h2⟩ := alookup_run ht hR (hev x) (hev k) hs
      unfold Oper.wp
      simp only [execOp, ho, Sem.run_bind, h1, Result.andThen_ok, Sem.run_pure, Oper.upon]
      exact hk v u H φ w h2 hR (Ext.refl ..) h
    · exact h.elim
  · rename_i t m k v ho
    obtain ⟨ht, h⟩ := h
    split at h
    · rename_i H' hs
      obtain ⟨w', h1, h2, h3, h4⟩ := amapUpd_run ht hR (hev m) (hev k) (hev v) hs
      unfold Oper.wp
      simp only [execOp, ho, Sem.run_bind, h1, Result.andThen_ok, Sem.run_pure, Oper.upon]
      exact hk _ _ H' φ w' (RV.undef φ) h2 ⟨fun _ _ => rfl, Nat.le_of_eq h4.symm, h3, fun _ _ h => h, fun _ _ h => .inl h⟩ h
    · exact h.elim
  · split at h
    · rename_i v hs; exact pure_case v hs h
    · exact h.elim

theorem WOps_run (hT : TOk P T) {ops : Array Oper} : ∀ (rest : List Oper) {base : Nat} {φ : Ph} {H : Heap} {w : World} {fr : Fr} {a : Act} {Q : Fr → Heap → Prop} {R : Exit → Act → World → Prop},
    WOps P T n ops.toList rest fr H Q → Rel base φ H w → FRel φ n fr a →
    (∀ a' w' fr' H' φ', Rel base φ' H' w' → FRel φ' n fr' a' → Ext base φ H w φ' H' w' → Q fr' H' → R .normal a' w') → wpList P ops R rest a w
  | [], base, φ, H, w, fr, a, Q, R, h, hR, hf, hk => hk a w fr H φ hR hf (Ext.refl ..) h
  | o :: rest, base, φ, H, w, fr, a, Q, R, h, hR, hf, hk => by
    obtain ⟨hd, h⟩ := h
    unfold Guard opsK opH at h
    have hd' : ∀ t, o.dst = some t → t < n := fun t ht => by unfold dstOk at hd; rw [ht] at hd; exact hd
    unfold wpList
    split at h
    · rename_i hw
      rw [if_pos (wantd_is hf hw)]
      refine .inl (WOp_run hT h hR hf.ev fun v u H' φ' w' h1 h2 h3 h4 => ?_)
      exact WOps_run hT rest h4 h2 ((hf.mono (h3.sub hR)).put hd' h1) fun a' w'' fr' H'' φ'' k1 k2 k3 k4 => hk a' w'' fr' H'' φ'' k1 k2 (h3.trans k3) k4
    · rename_i hw
      rw [if_neg (by rw [wantd_is hf hw]; simp)]
      exact WOps_run hT rest h hR (hf.put hd' (RV.undef φ)) hk
    · exact h.elim

/-! ### Code -/
theorem WX_region (hT : TOk P T) {id : Nat} {ops : Array Oper} {fr : Fr} {H : Heap} {Q : Exit → Fr → Heap → Prop} (h : WOps P T n ops.toList ops.toList fr H (Q .normal)) : WX P n (.region id ops false) fr H Q :=
  fun base φ w a hR hf => wp_region_list (WOps_run hT ops.toList h hR hf fun a' w' fr' H' φ' k1 k2 k3 k4 => ⟨fr', H', φ', k1, k2, k3, k4⟩)

def XThen (K : Fr → Heap → Prop) (Q : Exit → Fr → Heap → Prop) : Exit → Fr → Heap → Prop
  | .normal, fr, H => K fr H
  | e, fr, H => Q e fr H
theorem WX_seq {c d : Code} {fr : Fr} {H : Heap} {Q : Exit → Fr → Heap → Prop} (h : WX P n c fr H (XThen (fun fr' H' => WX P n d fr' H' Q) Q)) : WX P n (.seq c d) fr H Q :=
  fun base φ w a hR hf => wp_seq (Code.wp_mono (fun e a' w' ⟨fr', H', φ', k1, k2, k3, k4⟩ => by
    cases e with
    | normal => exact Code.wp_mono (fun e a'' w'' ⟨fr'', H'', φ'', j1, j2, j3, j4⟩ => ⟨fr'', H'', φ'', j1, j2, k3.trans j3, j4⟩) (k4 base φ' w' a' k1 k2)
    | _ => exact ⟨fr', H', φ', k1, k2, k3, k4⟩) (h base φ w a hR hf))
theorem WX_skip {fr : Fr} {H : Heap} {Q : Exit → Fr → Heap → Prop} (h : Q .normal fr H) : WX P n .skip fr H Q :=
  fun base φ w a hR hf => wp_skip ⟨fr, H, φ, hR, hf, Ext.refl .., h⟩
theorem WX_exit {id : Nat} {fr : Fr} {H : Heap} {Q : Exit → Fr → Heap → Prop} (h : Q (.exit id) fr H) : WX P n (.exit id) fr H Q :=
  fun base φ w a hR hf => wp_exit ⟨fr, H, φ, hR, hf, Ext.refl .., h⟩
theorem WX_ret {fr : Fr} {H : Heap} {Q : Exit → Fr → Heap → Prop} (h : Q .ret fr H) : WX P n .ret fr H Q :=
  fun base φ w a hR hf => wp_ret ⟨fr, H, φ, hR, hf, Ext.refl .., h⟩
theorem WX_cond {c : Operand} {x y : Code} {fr : Fr} {H : Heap} {Q : Exit → Fr → Heap → Prop} (h : IfB (fr.ev c) (WX P n x) (WX P n y) fr H Q) : WX P n (.cond c x y) fr H Q :=
  fun base φ w a hR hf => by
    unfold IfB at h
    split at h
    · rename_i t ht
      have hr := hf.ev c
      rw [ht] at hr
      have he : a.eval c = .bool t := by generalize a.eval c = q at hr; cases hr; rfl
      cases t
      · exact wp_cond he (h base φ w a hR hf)
      · exact wp_cond he (h base φ w a hR hf)
    · exact h.elim
def XBlock (id : Nat) (Q : Exit → Fr → Heap → Prop) : Exit → Fr → Heap → Prop
  | .exit id', fr, H => if id' = id then Q .normal fr H else Q (.exit id') fr H
  | e, fr, H => Q e fr H
theorem XBlock_eq (id id' : Nat) (Q : Exit → Fr → Heap → Prop) (fr : Fr) (H : Heap) : XBlock id Q (.exit id') fr H = if id' = id then Q .normal fr H else Q (.exit id') fr H := rfl
theorem WX_block {id : Nat} {c : Code} {fr : Fr} {H : Heap} {Q : Exit → Fr → Heap → Prop} (h : WX P n c fr H (XBlock id Q)) : WX P n (.block id c) fr H Q :=
  fun base φ w a hR hf => wp_block (Code.wp_mono (fun e a' w' ⟨fr', H', φ', k1, k2, k3, k4⟩ => by
    cases e with
    | exit id' =>
      simp only [Exit.inBlock, XBlock] at k4 ⊢
      split
      · rename_i he; rw [if_pos he] at k4; exact ⟨fr', H', φ', k1, k2, k3, k4⟩
      · rename_i he; rw [if_neg he] at k4; exact ⟨fr', H', φ', k1, k2, k3, k4⟩
    | _ => exact ⟨fr', H', φ', k1, k2, k3, k4⟩) (h base φ w a hR hf))
def loopK (I : Nat → Fr → Heap → Prop) (m : Nat) (fr : Fr) (H : Heap) : Prop := ∃ m', m' < m ∧ I m' fr H
/-- A loop: an invariant with a number that goes down. -/
theorem WX_loop {c : Code} {fr : Fr} {H : Heap} {Q : Exit → Fr → Heap → Prop} (I : Nat → Fr → Heap → Prop) (m : Nat) (h0 : I m fr H)
    (hs : ∀ m fr H, I m fr H → WX P n c fr H (XThen (loopK I m) Q)) : WX P n (.loop c) fr H Q := by
  intro base φ w a hR hf b k cs
  have key : ∀ m fr H φ w a, I m fr H → Rel base φ H w → FRel φ n fr a →
      ∃ e a' w', (∃ fr' H' φ', Rel base φ' H' w' ∧ FRel φ' n fr' a' ∧ Ext base φ H w φ' H' w' ∧ Q e fr' H') ∧ Arrives P (lone (b.at a (.code c :: .inLoop c :: k)) cs w) b k cs e a' w' := by
    intro m
    induction m using Nat.strongRecOn with
    | _ m ih =>
      intro fr H φ w a hI hR hf
      obtain ⟨e, a₁, w₁, ⟨fr', H', φ', k1, k2, k3, k4⟩, harr⟩ := hs m fr H hI base φ w a hR hf b (.inLoop c :: k) cs
      cases e with
      | normal =>
        obtain ⟨m', hlt, hI'⟩ := k4
        obtain ⟨e₂, a₂, w₂, ⟨fr₂, H₂, φ₂, j1, j2, j3, j4⟩, harr₂⟩ := ih m' hlt fr' H' φ' w₁ a₁ hI' k1 k2
        exact ⟨e₂, a₂, w₂, ⟨fr₂, H₂, φ₂, j1, j2, k3.trans j3, j4⟩, .of_steps (Steps.trans harr (.one step_inLoop)) harr₂⟩
      | exit id => exact ⟨_, a₁, w₁, ⟨fr', H', φ', k1, k2, k3, k4⟩, .pass (x := .inLoop c) rfl (fun _ _ => .inl (by simp)) harr⟩
      | goto l => exact ⟨_, a₁, w₁, ⟨fr', H', φ', k1, k2, k3, k4⟩, .pass (x := .inLoop c) rfl (fun _ _ => .inl (by simp)) harr⟩
      | ret => exact ⟨_, a₁, w₁, ⟨fr', H', φ', k1, k2, k3, k4⟩, .pass (x := .inLoop c) rfl (fun _ _ => .inl (by simp)) harr⟩
      | panic ch => exact ⟨_, a₁, w₁, ⟨fr', H', φ', k1, k2, k3, k4⟩, .pass (x := .inLoop c) rfl (fun _ _ => .inl (by simp)) harr⟩
      | outgrown => exact ⟨_, a₁, w₁, ⟨fr', H', φ', k1, k2, k3, k4⟩, .pass (x := .inLoop c) rfl (fun _ _ => .inl (by simp)) harr⟩
  obtain ⟨e, a', w', hq, harr⟩ := key m fr H φ w a h0 hR hf
  exact ⟨e, a', w', hq, .of_steps (.one step_loop) harr⟩

/-! ### Code, opened: loops and regions that draw their order stay as they are -/
def codeK (R : Fr → Heap → (Exit → Fr → Heap → Prop) → Prop) (Q : Exit → Fr → Heap → Prop) (fr : Fr) (H : Heap) : Prop := R fr H Q
theorem codeK_eq (R : Fr → Heap → (Exit → Fr → Heap → Prop) → Prop) (Q : Exit → Fr → Heap → Prop) (fr : Fr) (H : Heap) : codeK R Q fr H = R fr H Q := rfl
def wx (P : Program) (T : TypeId → Option TD) (n : Nat) : Code → Fr → Heap → (Exit → Fr → Heap → Prop) → Prop
  | .skip, fr, H, Q => Q .normal fr H
  | .region id ops false, fr, H, Q => WOps P T n ops.toList ops.toList fr H (Q .normal)
  | .region id ops true, fr, H, Q => WX P n (.region id ops true) fr H Q
  | .seq a b, fr, H, Q => wx P T n a fr H (XThen (codeK (wx P T n b) Q) Q)
  | .cond c a b, fr, H, Q => IfB (fr.ev c) (wx P T n a) (wx P T n b) fr H Q
  | .block id c, fr, H, Q => wx P T n c fr H (XBlock id Q)
  | .exit id, fr, H, Q => Q (.exit id) fr H
  | .ret, fr, H, Q => Q .ret fr H
  | c, fr, H, Q => WX P n c fr H Q
theorem wx_sound (hT : TOk P T) : ∀ (c : Code) {fr : Fr} {H : Heap} {Q : Exit → Fr → Heap → Prop}, wx P T n c fr H Q → WX P n c fr H Q
  | .skip, fr, H, Q, h => WX_skip h
  | .region id ops false, fr, H, Q, h => WX_region hT h
  | .region id ops true, fr, H, Q, h => h
  | .seq a b, fr, H, Q, h => WX_seq ((wx_sound hT a h).mono fun e fr' H' h' => by
      cases e with
      | normal => exact wx_sound hT b h'
      | _ => exact h')
  | .cond c a b, fr, H, Q, h => WX_cond (by
      have h' : IfB (fr.ev c) (wx P T n a) (wx P T n b) fr H Q := h
      unfold IfB at h' ⊢
      split at h'
      · split at h'
        · rename_i ht; rw [if_pos ht]; exact wx_sound hT a h'
        · rename_i ht; rw [if_neg ht]; exact wx_sound hT b h'
      · exact h'.elim)
  | .block id c, fr, H, Q, h => WX_block (wx_sound hT c h)
  | .exit id, fr, H, Q, h => WX_exit h
  | .ret, fr, H, Q, h => WX_ret h
  | .loop c, fr, H, Q, h => h
  | .rangeFunc .., fr, H, Q, h => h
  | .scope c, fr, H, Q, h => h
  | .label l, fr, H, Q, h => h
  | .goto l, fr, H, Q, h => h
  | .refuse w, fr, H, Q, h => h

/-! ### Calls -/
def ares (T : TypeId → Option TD) (fr : Fr) (H : Heap) : List ResultVar → Option (List AV)
  | [] => some []
  | .tmp t :: l => (ares T fr H l).map (fr.get t :: ·)
  | .cell x t :: l => (aload T H t (fr.get x)).bind fun v => (ares T fr H l).map (v :: ·)
def resOf : List AV → AV
  | [v] => v
  | l => .tup l
theorem ares_run (hT : TOk P T) {base : Nat} {φ : Ph} {fr : Fr} {a : Act} (hf : FRel φ n fr a) {H : Heap} {w : World} (hR : Rel base φ H w) {rs : List ResultVar} {l : List AV} (h : ares T fr H rs = some l) :
    ∃ vs, RVs φ l vs ∧ (rs.mapM (fun | .tmp t => pure (a.tmps.getD t undef) | .cell x t => do loadVar t (← asAddr (a.tmps.getD x undef)) : ResultVar → Sem Value)).run P w = .ok vs w := by
  induction rs generalizing l with
  | nil => simp only [ares, Option.some.injEq] at h; subst h; exact ⟨[], RVs.nil φ, by simp⟩
  | cons r rs ih =>
    cases r with
    | cell x t =>
      simp only [ares] at h
      cases hv : aload T H t (fr.get x) with
      | none => rw [hv] at h; cases h
      | some v =>
        rw [hv] at h
        simp only [Option.bind_some] at h
        cases hr : ares T fr H rs with
        | none => rw [hr] at h; cases h
        | some l' =>
          rw [hr] at h
          simp only [Option.map_some, Option.some.injEq] at h; subst h
          obtain ⟨vs, h1, h2⟩ := ih hr
          obtain ⟨u, h3, h4⟩ := aload_run hT hR hv (hf.ev (.tmp x))
          refine ⟨u :: vs, RVs.cons h3 h1, ?_⟩
          have he : (do loadVar t (← asAddr (a.tmps.getD x undef)) : Sem Value).run P w = .ok u w := by
            have hp : ∃ ad, a.eval (.tmp x) = .pointer (some ad) := by
              have hx := hf.ev (.tmp x)
              have hv' := hv
              unfold aload at hv'
              split at hv'
              · rename_i b o d hb hd
                simp only [Fr.ev] at hx
                rw [hb] at hx
                generalize a.eval (.tmp x) = q at hx
                cases hx
                exact ⟨_, rfl⟩
              · rename_i cs d hb hd
                simp only [Fr.ev] at hx
                rw [hb] at hx
                generalize a.eval (.tmp x) = q at hx
                cases hx
                exact ⟨_, rfl⟩
              · cases hv'
            obtain ⟨ad, had⟩ := hp
            have had' : a.tmps.getD x undef = .pointer (some ad) := had
            rw [had] at h4
            rw [had']
            simpa [Instr.loadAt, Instr.sureAddr, asAddr] using h4
          simp only [List.mapM_cons, Sem.run_bind, Sem.run_pure, Result.andThen_ok, h2]
          simp only [Sem.run_bind] at he
          rw [he]
          simp only [Result.andThen_ok, h2]
    | tmp t =>
      simp only [ares] at h
      cases hr : ares T fr H rs with
      | none => rw [hr] at h; cases h
      | some l' =>
        rw [hr] at h
        simp only [Option.map_some, Option.some.injEq] at h; subst h
        obtain ⟨vs, h1, h2⟩ := ih hr
        refine ⟨a.tmps.getD t undef :: vs, RVs.cons (hf.ev (.tmp t)) h1, ?_⟩
        simp only [List.mapM_cons, Sem.run_bind, Sem.run_pure, Result.andThen_ok, h2]
def bodyK (T : TypeId → Option TD) (rs : List ResultVar) (Q : AV → Heap → Prop) (e : Exit) (fr' : Fr) (H' : Heap) : Prop := (e = .normal ∨ e = .ret) ∧ match ares T fr' H' rs with | some l => Q (resOf l) H' | none => False
theorem bodyK_ret (T : TypeId → Option TD) (rs : List ResultVar) (Q : AV → Heap → Prop) (fr' : Fr) (H' : Heap) : bodyK T rs Q .ret fr' H' = match ares T fr' H' rs with | some l => Q (resOf l) H' | none => False := by simp [bodyK]
theorem bodyK_normal (T : TypeId → Option TD) (rs : List ResultVar) (Q : AV → Heap → Prop) (fr' : Fr) (H' : Heap) : bodyK T rs Q .normal fr' H' = match ares T fr' H' rs with | some l => Q (resOf l) H' | none => False := by simp [bodyK]
theorem WC_of_K {P : Program} {f : FuncId} {args : List AV} {H : Heap} {Q : AV → Heap → Prop} (h : ∀ K : AV → Heap → Prop, (∀ r H', Q r H' → K r H') → WC P f args H K) : WC P f args H Q := h Q fun _ _ h => h
theorem WC_of_body (hT : TOk P T) {f : FuncId} {fn : Func} {c : Code} {args : List AV} {H : Heap} {Q : AV → Heap → Prop} (hf : P.funcs[f]? = some fn) (hb : fn.body = some c) (hname : fn.name ≠ "runtime.NumGoroutine") (hn : args.length ≤ fn.ntmps)
    (h : WX P fn.ntmps c (Fr.init args) H (bodyK T fn.results.toList Q)) : WC P f args H Q := by
  refine ⟨⟨fn, hf, hname, by rw [hb]; simp⟩, fun base φ w vs hR hv => calls_of_wp hf hb (Code.wp_mono ?_ (h base φ w _ hR (FRel.init hv hn)))⟩
  rintro e a' w' ⟨fr', H', φ', k1, k2, k3, k4, k5⟩
  split at k5
  · rename_i l hl
    obtain ⟨vs', h1, h2⟩ := ares_run (P := P) hT k2 k1 hl
    have hres : ∃ v, (results fn a'.tmps).run P w' = .ok v w' ∧ RV φ' (resOf l) v := by
      have hm : (fn.results.mapM (fun | .tmp t => pure (a'.tmps.getD t undef) | .cell x t => do loadVar t (← asAddr (a'.tmps.getD x undef)) : ResultVar → Sem Value)).run P w' = .ok vs'.toArray w' := by
        rw [Array.mapM_eq_mapM_toList]
        simp only [Sem.run_map, h2, Result.andThen_ok]
      refine ⟨if h : vs'.toArray.size = 1 then vs'.toArray[0] else .tuple vs'.toArray, ?_, ?_⟩
      · simp only [results, Sem.run_bind, Sem.run_pure]
        exact (congrArg (fun r : Result (Array Value) => r.andThen fun a w' => Result.ok (if h : a.size = 1 then a[0] else Value.tuple a) w') hm).trans rfl
      · match l, h1 with
        | [], h1 => obtain rfl := h1.nil_left; simp [resOf]; exact RV.tup_iff.2 ⟨#[], rfl, RVs.nil _⟩
        | [v], h1 =>
          obtain ⟨u, us, rfl, j1, j2⟩ := h1.cons_left
          obtain rfl := j2.nil_left
          simpa [resOf] using j1
        | v :: v' :: l', h1 =>
          obtain ⟨u, us, rfl, j1, j2⟩ := h1.cons_left
          obtain ⟨u', us', rfl, j3, j4⟩ := j2.cons_left
          simp [resOf]
          exact RV.tup_iff.2 ⟨_, rfl, by simpa using h1⟩
    obtain ⟨v, hv1, hv2⟩ := hres
    have hpost : ∃ v, (results fn a'.tmps).run P w' = .ok v w' ∧ ∃ v' r H' φ', Ending.returned v = .returned v' ∧ RV φ' r v' ∧ Rel base φ' H' w' ∧ Ext base φ H w φ' H' w' ∧ Q r H' :=
      ⟨v, hv1, v, resOf l, H', φ', rfl, hv2, k1, k3, k5⟩
    rcases k4 with rfl | rfl
    · exact ⟨k2.defers, hpost⟩
    · exact ⟨k2.defers, hpost⟩
  · exact k5.elim
end
end Go.Proofs.PI

