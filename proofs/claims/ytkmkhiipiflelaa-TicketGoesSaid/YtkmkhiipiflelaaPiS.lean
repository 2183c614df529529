import Derived.Test.YtkmkhiipiflelaaPiR
/-! PI, part S: lists of things in memory: what reads as what, and which blocks that hangs on. -/
set_option linter.unusedVariables false
set_option linter.unusedSimpArgs false
namespace Go.Proofs.PI
open Go.RowKit

/-! ### Two lists, side by side -/
def All2 {α β : Type} (R : α → β → Prop) : List α → List β → Prop
  | [], [] => True
  | a :: l, b :: m => R a b ∧ All2 R l m
  | _, _ => False
section
variable {α β : Type} {R : α → β → Prop}
theorem All2.length : ∀ {l : List α} {m : List β}, All2 R l m → l.length = m.length
  | [], [], _ => rfl
  | a :: l, b :: m, h => by simp [All2.length h.2]
theorem All2.mono {S : α → β → Prop} (hs : ∀ a b, R a b → S a b) : ∀ {l : List α} {m : List β}, All2 R l m → All2 S l m
  | [], [], _ => trivial
  | a :: l, b :: m, h => ⟨hs _ _ h.1, All2.mono hs h.2⟩
theorem All2.snoc {a : α} {b : β} (h : R a b) : ∀ {l : List α} {m : List β}, All2 R l m → All2 R (l ++ [a]) (m ++ [b])
  | [], [], _ => ⟨h, trivial⟩
  | a :: l, b :: m, k => ⟨k.1, All2.snoc h k.2⟩
theorem All2.append : ∀ {l : List α} {m : List β}, All2 R l m → ∀ {l' : List α} {m' : List β}, All2 R l' m' → All2 R (l ++ l') (m ++ m')
  | [], [], _, _, _, h => h
  | a :: l, b :: m, k, _, _, h => ⟨k.1, All2.append k.2 h⟩
theorem All2.take : ∀ (n : Nat) {l : List α} {m : List β}, All2 R l m → All2 R (l.take n) (m.take n)
  | 0, _, _, _ => by simp [All2]
  | n + 1, [], [], _ => by simp [All2]
  | n + 1, a :: l, b :: m, h => ⟨h.1, All2.take n h.2⟩
theorem All2.drop : ∀ (n : Nat) {l : List α} {m : List β}, All2 R l m → All2 R (l.drop n) (m.drop n)
  | 0, _, _, h => by simpa using h
  | n + 1, [], [], _ => by simp [All2]
  | n + 1, a :: l, b :: m, h => by simpa using All2.drop n h.2
theorem All2.get : ∀ {l : List α} {m : List β}, All2 R l m → ∀ (i : Nat) (hl : i < l.length) (hm : i < m.length), R l[i] m[i]
  | a :: l, b :: m, h, 0, _, _ => h.1
  | a :: l, b :: m, h, i + 1, hl, hm => All2.get h.2 i (by simpa using hl) (by simpa using hm)
theorem All2.set : ∀ {l : List α} {m : List β}, All2 R l m → ∀ (i : Nat) {a : α} {b : β}, R a b → All2 R (l.set i a) (m.set i b)
  | [], [], _, _, _, _, _ => trivial
  | a :: l, b :: m, h, 0, _, _, k => ⟨k, h.2⟩
  | a :: l, b :: m, h, i + 1, _, _, k => ⟨h.1, All2.set h.2 i k⟩
theorem All2.mem_left : ∀ {l : List α} {m : List β}, All2 R l m → ∀ a ∈ l, ∃ b ∈ m, R a b
  | a :: l, b :: m, h, x, hx => by
    rcases List.mem_cons.1 hx with rfl | hx
    · exact ⟨b, by simp, h.1⟩
    · obtain ⟨y, hy, hr⟩ := All2.mem_left h.2 x hx; exact ⟨y, by simp [hy], hr⟩
theorem All2.map_left {γ : Type} {f : γ → α} : ∀ {l : List γ} {m : List β}, All2 R (l.map f) m ↔ All2 (fun c b => R (f c) b) l m
  | [], [] => Iff.rfl
  | [], _ :: _ => Iff.rfl
  | _ :: _, [] => Iff.rfl
  | a :: l, b :: m => and_congr Iff.rfl All2.map_left
theorem All2.map_right {γ : Type} {f : γ → β} : ∀ {l : List α} {m : List γ}, All2 R l (m.map f) ↔ All2 (fun a c => R a (f c)) l m
  | [], [] => Iff.rfl
  | [], _ :: _ => Iff.rfl
  | _ :: _, [] => Iff.rfl
  | a :: l, b :: m => and_congr Iff.rfl All2.map_right
theorem All2.of_fun {f : β → α} : ∀ {l : List α} {m : List β}, All2 (fun a b => a = f b) l m → l = m.map f
  | [], [], _ => rfl
  | a :: l, b :: m, h => by rw [h.1, List.map_cons, All2.of_fun h.2]
end
theorem flatten_len {els : List (List AV)} {sz : Nat} (h : ∀ x ∈ els, x.length = sz) : els.flatten.length = els.length * sz := by
  induction els with
  | nil => simp
  | cons a l ih =>
    rw [List.flatten_cons, List.length_append, ih fun x hx => h x (by simp [hx]), h a (by simp), List.length_cons, Nat.succ_mul, Nat.add_comm]
theorem flatten_drop {els : List (List AV)} {sz : Nat} (h : ∀ x ∈ els, x.length = sz) (i : Nat) : els.flatten.drop (i * sz) = (els.drop i).flatten := by
  induction els generalizing i with
  | nil => simp
  | cons a l ih =>
    cases i with
    | zero => simp
    | succ i =>
      have ha := h a (by simp)
      rw [List.flatten_cons, List.drop_succ_cons, ← ih (fun x hx => h x (by simp [hx])), Nat.succ_mul, Nat.add_comm, ← List.drop_drop]
      rw [← ha, List.drop_left]
theorem flatten_take {els : List (List AV)} {sz : Nat} (h : ∀ x ∈ els, x.length = sz) (i : Nat) : els.flatten.take (i * sz) = (els.take i).flatten := by
  induction els generalizing i with
  | nil => simp
  | cons a l ih =>
    cases i with
    | zero => simp
    | succ i =>
      have ha := h a (by simp)
      rw [List.take_succ_cons, List.flatten_cons, List.flatten_cons, ← ih (fun x hx => h x (by simp [hx])), Nat.succ_mul, Nat.add_comm, List.take_append, List.take_of_length_le (by omega), ha]
      congr 2; omega
theorem flatten_at {els : List (List AV)} {sz : Nat} (h : ∀ x ∈ els, x.length = sz) {i : Nat} (hi : i < els.length) : (els.flatten.drop (i * sz)).take sz = els[i] := by
  rw [flatten_drop h, List.drop_eq_getElem_cons hi, List.flatten_cons, List.take_append, List.take_of_length_le (by rw [h _ (List.getElem_mem hi)]; exact Nat.le_refl _)]
  rw [h _ (List.getElem_mem hi)]; simp

/-! ### What a fact hangs on -/
/-- The blocks of a set are as they were. -/
structure KeepOn (S : Nat → Prop) (H H' : Heap) : Prop where
  len : H.length ≤ H'.length
  at_ : ∀ b, b < H.length → S b → H'[b]? = H[b]?
theorem KeepOn.refl (S : Nat → Prop) (H : Heap) : KeepOn S H H := ⟨Nat.le_refl _, fun _ _ _ => rfl⟩
theorem KeepOn.trans {S : Nat → Prop} {H I J : Heap} (h : KeepOn S H I) (k : KeepOn S I J) : KeepOn S H J :=
  ⟨Nat.le_trans h.len k.len, fun b hb hs => (k.at_ b (Nat.lt_of_lt_of_le hb h.len) hs).trans (h.at_ b hb hs)⟩
theorem KeepOn.sub {S S' : Nat → Prop} {H I : Heap} (h : KeepOn S H I) (hs : ∀ b, S' b → S b) : KeepOn S' H I := ⟨h.len, fun b hb hb' => h.at_ b hb (hs b hb')⟩
theorem Keep.on {x : Option Nat} {H I : Heap} (h : Keep x H I) : KeepOn (fun b => x ≠ some b) H I := ⟨h.len, h.at_⟩
theorem Keep.onAny {H I : Heap} (h : Keep none H I) (S : Nat → Prop) : KeepOn S H I := ⟨h.len, fun b hb _ => h.at_ b hb (by simp)⟩
theorem Keep.onOf {x : Option Nat} {H I : Heap} (h : Keep x H I) {S : Nat → Prop} (hs : ∀ b, S b → x ≠ some b) : KeepOn S H I := ⟨h.len, fun b hb hb' => h.at_ b hb (hs b hb')⟩
theorem KeepOn.keep {H I : Heap} (h : KeepOn (fun _ => True) H I) : Keep none H I := ⟨h.len, fun b hb _ => h.at_ b hb trivial⟩
/-- The fact hangs on the blocks of that set alone. -/
def Stab (S : Nat → Prop) (P : Heap → Prop) (H : Heap) : Prop := ∀ H', KeepOn S H H' → P H'
theorem Stab.now {S : Nat → Prop} {P : Heap → Prop} {H : Heap} (h : Stab S P H) : P H := h H (KeepOn.refl _ _)
theorem Stab.on {S : Nat → Prop} {P : Heap → Prop} {H I : Heap} (h : Stab S P H) (k : KeepOn S H I) : Stab S P I := fun J kj => h J (k.trans kj)
theorem Stab.keep0 {S : Nat → Prop} {P : Heap → Prop} {H I : Heap} (h : Stab S P H) (k : Keep none H I) : Stab S P I := h.on (k.onAny S)
theorem Stab.mono {S : Nat → Prop} {P Q : Heap → Prop} {H : Heap} (h : Stab S P H) (hq : ∀ I, P I → Q I) : Stab S Q H := fun J kj => hq J (h J kj)
/-- What has been kept but for one block that the set has not. -/
theorem Stab.keep {S : Nat → Prop} {P : Heap → Prop} {H I : Heap} {x : Option Nat} (h : Stab S P H) (k : Keep x H I) (hs : ∀ b, S b → x ≠ some b) : Stab S P I := h.on (k.onOf hs)
/-- From that number on. -/
abbrev Ge (m : Nat) : Nat → Prop := fun b => m ≤ b

/-! ### Things -/
/-- What a row of cells tells of. -/
structure Rp (α : Type) where
  sz : Nat
  ok : Heap → List AV → α → Prop
  len : ∀ {H c x}, ok H c x → c.length = sz
  one : ∀ {H c x}, ok H c x → ∀ a ∈ c, a.one = true
  keep : ∀ {H H' c x}, Keep none H H' → ok H c x → ok H' c x
def Rp.int (k : IntKind) : Rp Int := ⟨1, fun _ c x => c = [.int k x], fun h => by rw [h]; rfl, fun h a ha => by rw [h] at ha; simp at ha; subst ha; rfl, fun _ h => h⟩
def Rp.str : Rp (List UInt8) := ⟨1, fun _ c x => c = [.str x], fun h => by rw [h]; rfl, fun h a ha => by rw [h] at ha; simp at ha; subst ha; rfl, fun _ h => h⟩
def Rp.bool : Rp Bool := ⟨1, fun _ c x => c = [.bool x], fun h => by rw [h]; rfl, fun h a ha => by rw [h] at ha; simp at ha; subst ha; rfl, fun _ h => h⟩
def Rp.bytes : Rp (List UInt8) := ⟨1, fun H c x => ∃ v, c = [v] ∧ Bs H v x, fun ⟨v, h, _⟩ => by rw [h]; rfl,
  fun ⟨v, h, hb⟩ a ha => by rw [h] at ha; simp at ha; subst ha; exact Vs.one hb, fun k ⟨v, h, hb⟩ => ⟨v, h, hb.keep0 k⟩⟩
def Rp.of {α β : Type} (A : Rp α) (f : β → α) : Rp β := ⟨A.sz, fun H c x => A.ok H c (f x), A.len, A.one, A.keep⟩
/-- A slice of things. -/
def SlOf {α : Type} (R : Rp α) (H : Heap) (v : AV) (xs : List α) : Prop := ∃ els : List (List AV), Vs H v R.sz xs.length els.flatten ∧ All2 (R.ok H) els xs
section
variable {α : Type} {R : Rp α} {H H' : Heap} {v : AV} {xs : List α}
theorem SlOf.keep0 (h : SlOf R H v xs) (k : Keep none H H') : SlOf R H' v xs := by
  obtain ⟨els, h1, h2⟩ := h
  exact ⟨els, h1.keep0 k, h2.mono fun a b hab => R.keep k hab⟩
theorem SlOf.one (h : SlOf R H v xs) : v.one = true := by obtain ⟨els, h1, _⟩ := h; exact h1.one
theorem SlOf.alen {T : TypeId → Option TD} {t e : TypeId} (h : SlOf R H v xs) (hk : tk T t = .slice e) : PI.alen T t v = some (.int .i64 xs.length) := by
  obtain ⟨els, h1, _⟩ := h; exact h1.alen hk
theorem all2_len {H : Heap} {els : List (List AV)} {xs : List α} (h : All2 (R.ok H) els xs) : ∀ x ∈ els, x.length = R.sz := fun x hx => by
  obtain ⟨b, _, hb⟩ := h.mem_left x hx; exact R.len hb
theorem SlOf.at_ {T : TypeId → Option TD} {t e : TypeId} (h : SlOf R H v xs) (he : asliceElem T t = some (e, R.sz)) {i : Nat} (hi : i < xs.length) {k : IntKind} {z : Int} (hz : z = i) :
    ∃ b o c, aindexAddr T t v (.int k z) = some (.ptr b o) ∧ H.read b o R.sz = some c ∧ R.ok H c xs[i] ∧ v.blk = some b := by
  obtain ⟨els, h1, h2⟩ := h
  obtain ⟨b, o, e1, e2, e3⟩ := h1.at_ he hi (k := k) hz
  have hel : i < els.length := by rw [h2.length]; exact hi
  rw [flatten_at (all2_len h2) hel] at e2
  exact ⟨b, o, _, e1, e2, h2.get i hel hi, e3⟩
theorem SlOf.nils : SlOf R H .nils [] := ⟨[], ⟨by simp, .inl ⟨rfl, rfl⟩⟩, trivial⟩
theorem SlOf.slice {T : TypeId → Option TD} {t e : TypeId} (h : SlOf R H v xs) (he : asliceElem T t = some (e, R.sz)) {lo hi : Option AV} {l u : Nat} (hl : abound 0 lo = some l) (hh : abound xs.length hi = some u) (hlu : l ≤ u) (hun : u ≤ xs.length) :
    ∃ v', aslice T H t v lo hi none = some v' ∧ SlOf R H v' ((xs.take u).drop l) ∧ (v'.blk = none ∨ v'.blk = v.blk) := by
  obtain ⟨els, h1, h2⟩ := h
  obtain ⟨v', e1, e2, e3⟩ := h1.slice he hl hh hlu hun
  refine ⟨v', e1, ⟨(els.take u).drop l, ?_, (h2.take u).drop l⟩, e3⟩
  have hn : ((xs.take u).drop l).length = u - l := by simp; omega
  have hc : (els.flatten.drop (l * R.sz)).take ((u - l) * R.sz) = ((els.take u).drop l).flatten := by
    rw [flatten_drop (all2_len h2), flatten_take (fun x hx => all2_len h2 x (List.mem_of_mem_drop hx)), List.drop_take]
  rw [hn, ← hc]; exact e2
end
def Rp.sl {α : Type} (A : Rp α) : Rp (List α) := ⟨1, fun H c x => ∃ v, c = [v] ∧ SlOf A H v x, fun ⟨v, h, _⟩ => by rw [h]; rfl,
  fun ⟨v, h, hb⟩ a ha => by rw [h] at ha; simp at ha; subst ha; exact hb.one, fun k ⟨v, h, hb⟩ => ⟨v, h, hb.keep0 k⟩⟩

/-! ### An own slice of things -/
/-- An own slice; each thing in it hangs on blocks of a set, and not on the slice's own block. -/
def OwnOf {α : Type} (m : Nat) (A : Nat → Prop) (R : Rp α) (H : Heap) (v : AV) (xs : List α) : Prop :=
  ∃ els : List (List AV), Own m H v R.sz els.flatten ∧ All2 (fun e x => Stab (fun b => v.blk ≠ some b ∧ A b) (fun I => R.ok I e x) H) els xs
section
variable {α : Type} {R : Rp α} {H H' : Heap} {v : AV} {xs : List α} {m : Nat} {A : Nat → Prop}
theorem OwnOf.nils : OwnOf m A R H .nils [] := ⟨[], .inl ⟨rfl, rfl⟩, trivial⟩
theorem OwnOf.now (h : OwnOf m A R H v xs) : ∃ els : List (List AV), Own m H v R.sz els.flatten ∧ All2 (R.ok H) els xs := by
  obtain ⟨els, h1, h2⟩ := h; exact ⟨els, h1, h2.mono fun _ _ h => h.now⟩
theorem OwnOf.sl (hsz : 0 < R.sz) (h : OwnOf m A R H v xs) : SlOf R H v xs := by
  obtain ⟨els, h1, h2⟩ := h.now
  obtain ⟨n, hv⟩ := h1.vs hsz
  have hn : n = xs.length := by
    have := hv.len
    rw [flatten_len (all2_len h2), h2.length] at this
    exact (Nat.eq_of_mul_eq_mul_right hsz this).symm
  exact ⟨els, hn ▸ hv, h2⟩
theorem OwnOf.keep0 (h : OwnOf m A R H v xs) (k : Keep none H H') : OwnOf m A R H' v xs := by
  obtain ⟨els, h1, h2⟩ := h; exact ⟨els, h1.keep0 k, h2.mono fun _ _ h => h.keep0 k⟩
theorem OwnOf.keep {x : Option Nat} (h : OwnOf m A R H v xs) (k : Keep x H H') (hx : ∀ b, x = some b → v.blk ≠ some b ∧ ¬ A b) : OwnOf m A R H' v xs := by
  obtain ⟨els, h1, h2⟩ := h
  exact ⟨els, h1.keep k fun b hb => (hx b hb).1, h2.mono fun _ _ h => h.keep k fun b hb hxb => (hx b hxb).2 hb.2⟩
theorem OwnOf.mono {m' : Nat} (h : OwnOf m A R H v xs) (hm : m' ≤ m) : OwnOf m' A R H v xs := by
  obtain ⟨els, h1, h2⟩ := h; exact ⟨els, h1.mono hm, h2⟩
theorem OwnOf.ge (h : OwnOf m A R H v xs) {b : Nat} (hb : v.blk = some b) : m ≤ b := by obtain ⟨els, h1, _⟩ := h; exact h1.ge hb
theorem OwnOf.lt (h : OwnOf m A R H v xs) {b : Nat} (hb : v.blk = some b) : b < H.length := by obtain ⟨els, h1, _⟩ := h; exact h1.lt hb
theorem OwnOf.one (h : OwnOf m A R H v xs) : v.one = true := by obtain ⟨els, h1, _⟩ := h; exact h1.one
end

/-! ### Own bytes, as things -/
def Rp.ob (m : Nat) : Rp (List UInt8) := ⟨1, fun H c x => ∃ v, c = [v] ∧ Ob m H v x, fun ⟨v, h, _⟩ => by rw [h]; rfl,
  fun ⟨v, h, hb⟩ a ha => by rw [h] at ha; simp at ha; subst ha; exact Own.one hb, fun k ⟨v, h, hb⟩ => ⟨v, h, hb.keep0 k⟩⟩
theorem Rp.ob_bytes {m : Nat} {H : Heap} {c : List AV} {x : List UInt8} (h : (Rp.ob m).ok H c x) : Rp.bytes.ok H c x := by
  obtain ⟨v, h1, h2⟩ := h; exact ⟨v, h1, h2.bs⟩
theorem SlOf.mono {α : Type} {R R' : Rp α} {H : Heap} {v : AV} {xs : List α} (h : SlOf R H v xs) (hsz : R'.sz = R.sz) (hr : ∀ c x, R.ok H c x → R'.ok H c x) : SlOf R' H v xs := by
  obtain ⟨els, h1, h2⟩ := h; exact ⟨els, by rw [hsz]; exact h1, h2.mono hr⟩
/-- A fresh list of fresh bytes. -/
abbrev Obs (m : Nat) (H : Heap) (v : AV) (xs : List (List UInt8)) : Prop := OwnOf m (Ge m) (Rp.ob m) H v xs
theorem Obs.sl {m : Nat} {H : Heap} {v : AV} {xs : List (List UInt8)} (h : Obs m H v xs) : SlOf Rp.bytes H v xs :=
  SlOf.mono (R := Rp.ob m) (R' := Rp.bytes) (OwnOf.sl (R := Rp.ob m) (Nat.lt_succ_self 0) h) rfl fun c x h => Rp.ob_bytes h
theorem Obs.keep {m : Nat} {x : Option Nat} {H H' : Heap} {v : AV} {xs : List (List UInt8)} (h : Obs m H v xs) (k : Keep x H H') (hx : ∀ b, x = some b → b < m) : Obs m H' v xs :=
  OwnOf.keep h k fun b hb => ⟨fun e => by have := OwnOf.ge h e; have := hx b hb; omega, fun e => by have := hx b hb; have : m ≤ b := e; omega⟩
section
variable {T : TypeId → Option TD} {H H' : Heap} {v : AV}
/-- What comes in, as things. -/
theorem Inp.slOf {α : Type} {R : Rp α} {P : α → Prop} {n : Nat} {t e : TypeId} {a : AV} (hk : tk T t = .slice e) (hs : asize T e = some R.sz) (hel : ∀ x, Inp T H n e x → ∃ y, R.ok H x y ∧ P y) (h : InpV T H (n + 1) t a) :
    ∃ xs, SlOf R H a xs ∧ (∀ d, T e = some d → xs.length * d.bytes ≤ reachBytes) ∧ ∀ x ∈ xs, P x := by
  obtain ⟨sz, els, h | h⟩ := Inp.slice hk h
  · obtain ⟨h1, h2, h3, h4⟩ := h
    rw [hs] at h1; simp only [Option.some.injEq] at h1; subst h1
    have key : ∀ els : List (List AV), (∀ x ∈ els, x.length = R.sz ∧ Inp T H n e x) → ∃ xs : List α, All2 (R.ok H) els xs ∧ ∀ x ∈ xs, P x := fun els => by
      induction els with
      | nil => intro _; exact ⟨[], trivial, by simp⟩
      | cons x els ih =>
        intro hx
        obtain ⟨xs, k1, k2⟩ := ih fun y hy => hx y (by simp [hy])
        obtain ⟨y, k3, k4⟩ := hel x (hx x (by simp)).2
        exact ⟨y :: xs, ⟨k3, k1⟩, fun z hz => by rcases List.mem_cons.1 hz with rfl | hz; exact k4; exact k2 z hz⟩
    obtain ⟨xs, k1, k2⟩ := key els h4
    exact ⟨xs, ⟨els, by rw [← k1.length]; exact h2, k1⟩, by rw [← k1.length]; exact h3.2, k2⟩
  · refine ⟨[], ⟨[], ⟨by simp, ?_⟩, trivial⟩, fun d _ => by simp, by simp⟩
    rcases h with rfl | rfl
    · exact .inl ⟨rfl, rfl⟩
    · exact .inr (.inl ⟨rfl, rfl⟩)
end
section
variable {T : TypeId → Option TD} {H H' : Heap} {v : AV}
theorem Inp.texts {n : Nat} {t e : TypeId} {a : AV} (hk : tk T t = .slice e) (he : tk T e = .str) (hs : asize T e = some 1) (h : InpV T H (n + 2) t a) : ∃ l, Ss H a l ∧ (∀ d, T e = some d → l.length * d.bytes ≤ reachBytes) ∧ ∀ x ∈ l, x.length ≤ reachBytes := by
  obtain ⟨xs, h1, h2, h3⟩ := Inp.slOf (R := Rp.str) (P := fun x => x.length ≤ reachBytes) hk hs (fun x hx => by
    simp only [Inp, he] at hx
    obtain ⟨v, rfl, hv⟩ := hx
    exact ⟨v, rfl, hv⟩) h
  obtain ⟨els, k1, k2⟩ := h1
  refine ⟨xs, ?_, h2, h3⟩
  have : els.flatten = xs.map .str := by
    have : els = xs.map fun x => [.str x] := All2.of_fun k2
    rw [this]
    clear k1 k2 this h2 h3
    induction xs with
    | nil => rfl
    | cons x xs ih => simp [ih]
  rw [this] at k1
  exact k1
end
theorem OwnOf.new {α : Type} {R : Rp α} {v : AV} {xs : List α} {A : Nat → Prop} {G I J K' : Heap} (h : OwnOf G.length A R K' v xs) (k : Keep none G I) (k' : Keep v.blk I J) : Keep none G J := by
  obtain ⟨els, h1, _⟩ := h; exact Own.new h1 k k'
/-! ### Bytes that may be written over -/
def WrB (m : Nat) (H : Heap) (v : AV) (n : Nat) : Prop :=
  (n = 0 ∧ (v = .nils ∨ v = .emp)) ∨ ∃ b o cap B, v = .sl b o n cap ∧ m ≤ b ∧ H[b]? = some B ∧ B.st.own = true ∧ ∀ i, i < n → ∃ x : UInt8, B.cells[o + i]? = some (.int .u8 x.toNat)
theorem WrB.of_ob {m : Nat} {H : Heap} {v : AV} {l : List UInt8} (h : Ob m H v l) : WrB m H v l.length := by
  rcases h with ⟨rfl, h⟩ | ⟨b, n, st, rest, rfl, h1, h2, h4, h3⟩
  · cases l with
    | nil => exact .inl ⟨rfl, .inl rfl⟩
    | cons x l => simp [byc] at h
  · rw [byc_length, Nat.mul_one] at h3
    subst h3
    refine .inr ⟨b, 0, none, _, rfl, h1, h2, h4, fun i hi => ⟨l[i], ?_⟩⟩
    show (byc l ++ rest)[0 + i]? = _
    rw [Nat.zero_add, List.getElem?_append_left (by simpa [byc_length] using hi)]; exact byc_get l i hi
theorem WrB.alen {T : TypeId → Option TD} {m : Nat} {H : Heap} {v : AV} {n : Nat} {t e : TypeId} (h : WrB m H v n) (hk : tk T t = .slice e) : PI.alen T t v = some (.int .i64 n) := by
  rcases h with ⟨rfl, rfl | rfl⟩ | ⟨b, o, cap, B, rfl, _⟩
  · simp [PI.alen, hk]
  · simp [PI.alen, hk]
  · simp [PI.alen, hk]
theorem WrB.one {m : Nat} {H : Heap} {v : AV} {n : Nat} (h : WrB m H v n) : v.one = true := by
  rcases h with ⟨rfl, rfl | rfl⟩ | ⟨b, o, cap, B, rfl, _⟩ <;> rfl
/-- A byte is written over. -/
structure Over (m : Nat) (H H' : Heap) (b j : Nat) : Prop where
  ge : m ≤ b
  was : ∃ B, H[b]? = some B ∧ B.st.own = true ∧ (∃ x : UInt8, B.cells[j]? = some (.int .u8 x.toNat)) ∧ ∃ y : UInt8, H' = List.set H b ⟨B.cells.set j (.int .u8 y.toNat), B.esz, B.st⟩
theorem Over.keep {m : Nat} {H H' : Heap} {b j : Nat} (h : Over m H H' b j) : Keep (some b) H H' := by
  obtain ⟨B, _, _, _, y, rfl⟩ := h.was
  exact ⟨by simp, fun c hc hx => by rw [List.getElem?_set_ne (by intro e; subst e; exact hx rfl)]⟩
theorem WrB.over {m : Nat} {H H' : Heap} {v : AV} {n b j : Nat} (h : WrB m H v n) (k : Over m H H' b j) : WrB m H' v n := by
  rcases h with h | ⟨c, o, cap, C, rfl, h1, h2, h3, h4⟩
  · exact .inl h
  · obtain ⟨B, g1, g2, ⟨x, g3⟩, y, rfl⟩ := k.was
    by_cases e : b = c
    · subst e
      rw [h2] at g1; cases g1
      refine .inr ⟨b, o, cap, _, rfl, h1, List.getElem?_set_self (List.getElem?_eq_some_iff.1 h2).1, h3, fun i hi => ?_⟩
      obtain ⟨z, hz⟩ := h4 i hi
      have hlt := (List.getElem?_eq_some_iff.1 hz).1
      show ∃ x : UInt8, (C.cells.set j _)[o + i]? = _
      by_cases ej : j = o + i
      · subst ej; exact ⟨y, List.getElem?_set_self hlt⟩
      · exact ⟨z, by rw [List.getElem?_set_ne ej]; exact hz⟩
    · exact .inr ⟨c, o, cap, C, rfl, h1, by rw [List.getElem?_set_ne e]; exact h2, h3, h4⟩
theorem WrB.at_ {T : TypeId → Option TD} {m : Nat} {H : Heap} {v : AV} {n : Nat} {t e te : TypeId} (h : WrB m H v n) (he : asliceElem T t = some (e, 1)) (hs : asize T te = some 1) {i : Nat} (hi : i < n) {k : IntKind} {z : Int} (hz : z = i) :
    ∃ b j, ∃ x : UInt8, aindexAddr T t v (.int k z) = some (.ptr b j) ∧ H.read b j 1 = some [.int .u8 x.toNat] ∧ v.blk = some b ∧ ∀ (y : UInt8) a, a = AV.int .u8 y.toNat → ∃ H', astore T H te (.ptr b j) a = some H' ∧ Over m H H' b j := by
  subst hz
  rcases h with ⟨rfl, _⟩ | ⟨b, o, cap, B, rfl, h1, h2, h3, h4⟩
  · omega
  · obtain ⟨x, hx⟩ := h4 i hi
    have hlt := (List.getElem?_eq_some_iff.1 hx).1
    refine ⟨b, o + i, x, ?_, read_at h2 (own_alive h3) hx, rfl, fun y a ha => ⟨List.set H b ⟨B.cells.set (o + i) (.int .u8 y.toNat), B.esz, B.st⟩, ?_, ⟨h1, B, h2, h3, ⟨x, hx⟩, y, rfl⟩⟩⟩
    · simp only [aindexAddr, he]; rw [if_pos ⟨by omega, by omega⟩]; simp
    · subst ha
      simp only [astore, hs, h2, h3, AV.solid, AV.one, AV.cells, List.length_cons, List.length_nil, true_and]
      rw [if_pos (by omega)]; rfl
def Rp.wr (m : Nat) : Rp Nat := ⟨1, fun H c x => ∃ v, c = [v] ∧ WrB m H v x, fun ⟨v, h, _⟩ => by rw [h]; rfl,
  fun ⟨v, h, hb⟩ a ha => by rw [h] at ha; simp at ha; subst ha; exact hb.one, fun k ⟨v, h, hb⟩ => ⟨v, h, by
    rcases hb with hb | ⟨c, o, cap, C, rfl, h1, h2, h3⟩
    · exact .inl hb
    · exact .inr ⟨c, o, cap, C, rfl, h1, k.get h2 (by simp), h3⟩⟩⟩
theorem Obs.wr {m : Nat} {H : Heap} {v : AV} {xs : List (List UInt8)} (h : Obs m H v xs) : SlOf (Rp.wr m) H v (xs.map List.length) := by
  obtain ⟨els, h1, h2⟩ := OwnOf.sl (R := Rp.ob m) (Nat.lt_succ_self 0) h
  exact ⟨els, by rw [List.length_map]; exact h1, All2.map_right.2 (h2.mono fun c x ⟨v, hv, ho⟩ => ⟨v, hv, WrB.of_ob ho⟩)⟩
theorem SlOf.over {m : Nat} {H H' : Heap} {v : AV} {ns : List Nat} {b j : Nat} (h : SlOf (Rp.wr m) H v ns) (k : Over m H H' b j) : SlOf (Rp.wr m) H' v ns := by
  obtain ⟨els, h1, h2⟩ := h
  refine ⟨els, ?_, h2.mono fun c x ⟨v, hv, hb⟩ => ⟨v, hv, hb.over k⟩⟩
  obtain ⟨hlen, h3⟩ := h1
  refine ⟨hlen, ?_⟩
  rcases h3 with h3 | h3 | ⟨c, o, cap, C, rfl, g1, g2, g3, g4, g5, g6⟩
  · exact .inl h3
  · exact .inr (.inl h3)
  · obtain ⟨B, q1, q2, ⟨x, q3⟩, y, rfl⟩ := k.was
    by_cases e : b = c
    · subst e
      rw [g2] at q1; cases q1
      have hj : j < o ∨ o + ns.length * 1 ≤ j := by
        rcases Nat.lt_or_ge j o with hj | hj
        · exact .inl hj
        · rcases Nat.lt_or_ge j (o + ns.length * 1) with hj2 | hj2
          · exfalso
            have hg : els.flatten[j - o]? = some (.int .u8 x.toNat) := by
              rw [← g6, List.getElem?_take, if_pos (by show j - o < ns.length * 1; omega), List.getElem?_drop, show o + (j - o) = j by omega]; exact q3
            obtain ⟨l, hl, hm⟩ := List.mem_flatten.1 (List.mem_of_getElem? hg)
            obtain ⟨n, _, v, rfl, hw⟩ := h2.mem_left l hl
            simp at hm; subst hm
            rcases hw with ⟨_, h | h⟩ | ⟨_, _, _, _, h, _⟩ <;> cases h
          · exact .inr hj2
      refine .inr (.inr ⟨b, o, cap, _, rfl, g1, List.getElem?_set_self (List.getElem?_eq_some_iff.1 g2).1, g3, g4, by simpa using g5, ?_⟩)
      rw [← g6]
      apply List.ext_getElem?
      intro i
      rw [List.getElem?_take, List.getElem?_take, List.getElem?_drop, List.getElem?_drop]
      split
      · rename_i hi
        rw [List.getElem?_set_ne (by have : (Rp.wr m).sz = 1 := rfl; rw [this] at hi; omega)]
      · rfl
    · exact .inr (.inr ⟨c, o, cap, C, rfl, g1, by rw [List.getElem?_set_ne e]; exact g2, g3, g4, g5, g6⟩)
/-! ### Slots that stay -/
def Slots : List (Nat × AV) → Fr → Prop
  | [], _ => True
  | (t, a) :: l, fr => fr.get t = a ∧ Slots l fr
theorem Slots.put {L : List (Nat × AV)} {fr : Fr} {d : Nat} {v : AV} (h : L.all (fun p => p.1 != d) = true) (hs : Slots L fr) : Slots L (fr.put (some d) v) := by
  induction L with
  | nil => trivial
  | cons p L ih =>
    obtain ⟨t, a⟩ := p
    simp only [List.all_cons, Bool.and_eq_true, bne_iff_ne] at h
    exact ⟨by rw [Fr.get_put, if_neg h.1]; exact hs.1, ih h.2 hs.2⟩
theorem Own.vs1 {α : Type} {f : α → AV} {m : Nat} {H : Heap} {v : AV} {l : List α} (h : Own m H v 1 (l.map f)) : Vs H v 1 l.length (l.map f) := by
  obtain ⟨n, hn⟩ := Own.vs h (Nat.lt_succ_self 0)
  have := hn.len
  rw [List.length_map, Nat.mul_one] at this
  rw [this]; exact hn
theorem Keep.over {B H H' : Heap} {m b j : Nat} (k : Keep none B H) (ov : Over m H H' b j) (hm : B.length ≤ m) : Keep none B H' := Keep.new k ov.keep (Nat.le_trans hm ov.ge)
theorem WrB.mono {m m' : Nat} {H : Heap} {v : AV} {n : Nat} (h : WrB m H v n) (hm : m' ≤ m) : WrB m' H v n := by
  rcases h with h | ⟨b, o, cap, B, h0, h1, h2⟩
  · exact .inl h
  · exact .inr ⟨b, o, cap, B, h0, Nat.le_trans hm h1, h2⟩
theorem WrB.keep0 {m : Nat} {H H' : Heap} {v : AV} {n : Nat} (h : WrB m H v n) (k : Keep none H H') : WrB m H' v n := by
  rcases h with h | ⟨b, o, cap, B, h0, h1, h2, h3⟩
  · exact .inl h
  · exact .inr ⟨b, o, cap, B, h0, h1, k.get h2 (by simp), h3⟩
end Go.Proofs.PI

