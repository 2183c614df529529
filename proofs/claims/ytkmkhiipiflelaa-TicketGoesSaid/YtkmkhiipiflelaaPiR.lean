import Derived.Test.YtkmkhiipiflelaaPiN
import Derived.Test.YtkmkhiipiflelaaPiQ
/-! PI, part R: slices as lists of cells; bytes. -/
set_option linter.unusedVariables false
set_option linter.unusedSimpArgs false
namespace Go.Proofs.PI

def byc (l : List UInt8) : List AV := l.map fun b => .int .u8 b.toNat
theorem byc_length (a : List UInt8) : (byc a).length = a.length := by simp [byc]
theorem byc_cons (x : UInt8) (a : List UInt8) : byc (x :: a) = .int .u8 x.toNat :: byc a := rfl
theorem byc_take (l : List UInt8) (n : Nat) : (byc l).take n = byc (l.take n) := by simp [byc, List.map_take]
theorem byc_drop (l : List UInt8) (n : Nat) : (byc l).drop n = byc (l.drop n) := by simp [byc, List.map_drop]
theorem byc_get (l : List UInt8) (i : Nat) (h : i < l.length) : (byc l)[i]? = some (.int .u8 l[i].toNat) := by simp [byc, h]
theorem abytes_byc (a : List UInt8) : abytes (byc a) = some a := by
  induction a with
  | nil => rfl
  | cons x a ih => simp only [byc, List.map_cons, abytes] at ih ⊢; rw [ih]; simp
theorem read_at {H : Heap} {b i : Nat} {B : Blk} {a : AV} (hB : H[b]? = some B) (hal : B.st.alive = true) (ha : B.cells[i]? = some a) : H.read b i 1 = some [a] := by
  have hi := (List.getElem?_eq_some_iff.1 ha).1
  have he := (List.getElem?_eq_some_iff.1 ha).2
  simp only [Heap.read, hB, hal, true_and, if_pos (show i + 1 ≤ B.cells.length by omega), Option.some.injEq]
  rw [List.drop_eq_getElem_cons hi]
  simp [he]
theorem read_get {H : Heap} {b : Nat} {B : Blk} (hb : H[b]? = some B) (o n : Nat) : H.read b o n = if B.st.alive = true ∧ o + n ≤ B.cells.length then some ((B.cells.drop o).take n) else none := by
  simp only [Heap.read, hb]
theorem get_app {H : Heap} {b : Nat} {B : Blk} (hb : H[b]? = some B) (G : Heap) : (H ++ G)[b]? = some B := by
  rw [List.getElem?_append_left (List.getElem?_eq_some_iff.1 hb).1]; exact hb
theorem get_last (H : Heap) (B : Blk) : (H ++ [B])[H.length]? = some B := by simp
theorem read_last_cons (H : Heap) (c : AV) (cs : List AV) (sz : Nat) (st : St) (o n : Nat) : Heap.read (H ++ [⟨c :: cs, sz, st⟩]) H.length o n = if st.alive = true ∧ o + n ≤ (c :: cs).length then some (((c :: cs).drop o).take n) else none := read_get (get_last H _) o n
/-- A slice of n elements of a size, with these cells. -/
def Vs (H : Heap) (v : AV) (sz n : Nat) (cs : List AV) : Prop :=
  cs.length = n * sz ∧ ((v = .nils ∧ n = 0) ∨ (v = .emp ∧ n = 0) ∨ ∃ b o cap B, v = .sl b o n cap ∧ (∀ c, cap = some c → n ≤ c) ∧ H[b]? = some B ∧ B.st.alive = true ∧ (B.st.alive = true → B.esz = sz) ∧ o + n * sz ≤ B.cells.length ∧ (B.cells.drop o).take (n * sz) = cs)
section
variable {T : TypeId → Option TD} {H H' : Heap} {v : AV} {sz n : Nat} {cs : List AV}
theorem Vs.len (h : Vs H v sz n cs) : cs.length = n * sz := h.1
theorem Vs.keep {x : Option Nat} (h : Vs H v sz n cs) (k : Keep x H H') (hx : ∀ b, v.blk = some b → x ≠ some b) : Vs H' v sz n cs := by
  refine ⟨h.1, ?_⟩
  rcases h.2 with h | h | ⟨b, o, cap, B, rfl, hcap, h1, h2⟩
  · exact .inl h
  · exact .inr (.inl h)
  · exact .inr (.inr ⟨b, o, cap, B, rfl, hcap, k.get h1 (hx b rfl), h2⟩)
theorem Vs.keep0 (h : Vs H v sz n cs) (k : Keep none H H') : Vs H' v sz n cs := h.keep k (fun _ _ => by simp)
theorem Vs.sl (h : Vs H v sz n cs) : Sl H v sz n cs := by
  refine ⟨h.1, ?_⟩
  rcases h.2 with h | h | ⟨b, o, cap, B, rfl, hcap, h1, h2, h3, h4, h5⟩
  · exact .inl h
  · exact .inr (.inl h)
  · exact .inr (.inr ⟨b, o, cap, rfl, by simp only [Heap.read, h1, h2, true_and, if_pos h4, h5]⟩)
theorem Vs.one (h : Vs H v sz n cs) : v.one = true := by
  rcases h.2 with ⟨rfl, _⟩ | ⟨rfl, _⟩ | ⟨b, o, cap, B, rfl, hcap, h1, h2⟩ <;> rfl
theorem Own.one {m : Nat} (h : Own m H v sz cs) : v.one = true := by
  rcases h with ⟨rfl, _⟩ | ⟨b, n, st, rest, rfl, h1, h2⟩ <;> rfl
theorem Vs.lt (h : Vs H v sz n cs) {b : Nat} (hb : v.blk = some b) : b < H.length := by
  rcases h.2 with ⟨rfl, _⟩ | ⟨rfl, _⟩ | ⟨b', o, cap, B, rfl, hcap, h1, h2⟩
  · cases hb
  · cases hb
  · simp only [AV.blk, Option.some.injEq] at hb; subst hb; exact (List.getElem?_eq_some_iff.1 h1).1
theorem Vs.alen {t e : TypeId} (h : Vs H v sz n cs) (hk : tk T t = .slice e) : alen T t v = some (.int .i64 n) := by
  unfold PI.alen
  rcases h.2 with ⟨rfl, rfl⟩ | ⟨rfl, rfl⟩ | ⟨b, o, cap, B, rfl, hcap, h1, h2⟩ <;> simp [hk]
theorem Own.vs {m : Nat} (h : Own m H v sz cs) (hsz : 0 < sz) : ∃ n, Vs H v sz n cs := by
  rcases h with ⟨rfl, rfl⟩ | ⟨b, n, st, rest, rfl, h1, h2, h4, h3⟩
  · exact ⟨0, by simp, .inl ⟨rfl, rfl⟩⟩
  · exact ⟨n, h3, .inr (.inr ⟨b, 0, none, _, rfl, fun c hc => (by cases hc), h2, own_alive h4, fun _ => rfl, by simp [h3], by simp [h3, List.take_left' h3]⟩)⟩
theorem Own.ge {m : Nat} (h : Own m H v sz cs) {b : Nat} (hb : v.blk = some b) : m ≤ b := by
  rcases h with ⟨rfl, rfl⟩ | ⟨b', n, st, rest, rfl, h1, h2⟩
  · cases hb
  · simp only [AV.blk, Option.some.injEq] at hb; subst hb; exact h1
theorem Own.lt {m : Nat} (h : Own m H v sz cs) {b : Nat} (hb : v.blk = some b) : b < H.length := by
  rcases h with ⟨rfl, rfl⟩ | ⟨b', n, st, rest, rfl, h1, h2, h3⟩
  · cases hb
  · simp only [AV.blk, Option.some.injEq] at hb; subst hb; exact (List.getElem?_eq_some_iff.1 h2).1
theorem Own.keep0 {m : Nat} (h : Own m H v sz cs) (k : Keep none H H') : Own m H' v sz cs := h.keep k (by simp)

/-- What an append to an own slice changed is new. -/
theorem Own.new {G I J : Heap} {w : AV} {cs' : List AV} {sz' : Nat} {K' : Heap} (h : Own G.length K' w sz' cs') (k : Keep none G I) (k' : Keep w.blk I J) : Keep none G J := by
  cases hb : w.blk with
  | none => rw [hb] at k'; exact k.trans k'
  | some b => rw [hb] at k'; exact Keep.new k k' (h.ge hb)
/-- An element's address, and what stands there. -/
theorem Vs.at_ {t e : TypeId} (h : Vs H v sz n cs) (he : asliceElem T t = some (e, sz)) {i : Nat} (hi : i < n) {k : IntKind} {z : Int} (hz : z = i) :
    ∃ b o, aindexAddr T t v (.int k z) = some (.ptr b o) ∧ H.read b o sz = some ((cs.drop (i * sz)).take sz) ∧ v.blk = some b := by
  subst hz
  rcases h.2 with ⟨rfl, rfl⟩ | ⟨rfl, rfl⟩ | ⟨b, o, cap, B, rfl, hcap, h1, h2, h3, h4, h5⟩
  · omega
  · omega
  · have hmul : (i + 1) * sz ≤ n * sz := Nat.mul_le_mul_right _ hi
    rw [Nat.add_mul, Nat.one_mul] at hmul
    refine ⟨b, o + i * sz, ?_, ?_, rfl⟩
    · simp only [aindexAddr, he]
      rw [if_pos ⟨by omega, by omega⟩]
      simp
    · simp only [Heap.read, h1, h2, true_and]
      rw [if_pos (by omega)]
      simp only [Option.some.injEq]
      rw [← h5, List.drop_take, List.take_take, List.drop_drop]
      congr 1; omega

theorem abound_nat {d : Nat} {k : IntKind} (m : Nat) {z : Int} (hz : z = m) : abound d (some (.int k z)) = some m := by
  subst hz; simp [abound]
theorem Vs.slice {t e : TypeId} (h : Vs H v sz n cs) (he : asliceElem T t = some (e, sz)) {lo hi : Option AV} {l u : Nat} (hl : abound 0 lo = some l) (hh : abound n hi = some u) (hlu : l ≤ u) (hun : u ≤ n) :
    ∃ v', aslice T H t v lo hi none = some v' ∧ Vs H v' sz (u - l) ((cs.drop (l * sz)).take ((u - l) * sz)) ∧ (v'.blk = none ∨ v'.blk = v.blk) := by
  have hlen := h.1
  have hm1 : l * sz ≤ u * sz := Nat.mul_le_mul_right _ hlu
  have hm2 : u * sz ≤ n * sz := Nat.mul_le_mul_right _ hun
  have hsub : (u - l) * sz = u * sz - l * sz := Nat.sub_mul ..
  rcases h.2 with ⟨rfl, rfl⟩ | ⟨rfl, rfl⟩ | ⟨b, o, cap, B, rfl, hcap, h1, h2, h3, h4, h5⟩
  · obtain rfl : u = 0 := by omega
    obtain rfl : l = 0 := by omega
    have : cs = [] := List.eq_nil_of_length_eq_zero (by simpa using hlen)
    subst this
    exact ⟨.nils, by simp [aslice, he, hl, hh], ⟨by simp, .inl ⟨rfl, rfl⟩⟩, .inl rfl⟩
  · obtain rfl : u = 0 := by omega
    obtain rfl : l = 0 := by omega
    have : cs = [] := List.eq_nil_of_length_eq_zero (by simpa using hlen)
    subst this
    exact ⟨.emp, by simp [aslice, he, hl, hh], ⟨by simp, .inr (.inl ⟨rfl, rfl⟩)⟩, .inl rfl⟩
  · have hc : l ≤ u ∧ True ∧ True := ⟨hlu, trivial, trivial⟩
    have hesz : eszOk H b sz = true := by
      simp only [eszOk, h1, h2, Bool.true_and, decide_eq_true_eq]
      exact h3 h2
    by_cases hroom : roomOf H b o sz n cap u = true
    · by_cases h0 : l = 0
      · subst h0
        refine ⟨.sl b o u cap, by simp [aslice, he, hl, hh, hlu, hroom, hesz], ⟨?_, .inr (.inr ⟨b, o, cap, B, by simp, fun c hc => (by have := hcap c hc; omega), h1, h2, h3, by simp; omega, ?_⟩)⟩, .inr rfl⟩
        · simp [hlen]; rw [Nat.min_eq_left hun]
        · simp only [Nat.sub_zero, Nat.zero_mul, List.drop_zero]
          rw [← h5, List.take_take]; congr 1; omega
      · by_cases heq : l = u
        · subst heq
          refine ⟨.emp, by simp [aslice, he, hl, hh, hroom, hesz, h0], ⟨by simp, .inr (.inl ⟨rfl, by omega⟩)⟩, .inl rfl⟩
        · refine ⟨.sl b (o + l * sz) (u - l) (cap.map (· - l)), by simp [aslice, he, hl, hh, hlu, hroom, hesz, h0, heq], ⟨?_, .inr (.inr ⟨b, o + l * sz, _, B, rfl, fun c hc => (by cases cap with
            | none => cases hc
            | some c' => have := hcap c' rfl; simp at hc; omega), h1, h2, h3, by omega, ?_⟩)⟩, .inr rfl⟩
          · simp [hlen]; omega
          · rw [← h5, List.drop_take, List.take_take, List.drop_drop]; congr 1; omega
    · exfalso
      apply hroom
      unfold roomOf
      cases cap with
      | none => simp; exact .inl hun
      | some c => have := hcap c rfl; simp; omega

/-! ### bytes -/
/-- A slice of bytes. -/
def Bs (H : Heap) (v : AV) (l : List UInt8) : Prop := Vs H v 1 l.length (byc l)
theorem Bs.keep {x : Option Nat} {l : List UInt8} (h : Bs H v l) (k : Keep x H H') (hx : ∀ b, v.blk = some b → x ≠ some b) : Bs H' v l := Vs.keep h k hx
theorem Bs.keep0 {l : List UInt8} (h : Bs H v l) (k : Keep none H H') : Bs H' v l := Vs.keep0 h k
theorem Bs.lt {l : List UInt8} (h : Bs H v l) {b : Nat} (hb : v.blk = some b) : b < H.length := Vs.lt h hb
theorem Bs.alen {t e : TypeId} {l : List UInt8} (h : Bs H v l) (hk : tk T t = .slice e) : PI.alen T t v = some (.int .i64 l.length) := Vs.alen h hk
/-- Own bytes. -/
def Ob (m : Nat) (H : Heap) (v : AV) (l : List UInt8) : Prop := Own m H v 1 (byc l)
theorem Ob.bs {m : Nat} {l : List UInt8} (h : Ob m H v l) : Bs H v l := by
  obtain ⟨n, hn⟩ := Own.vs h (by omega)
  have := hn.1
  rw [byc_length, Nat.mul_one] at this
  subst this
  exact hn
theorem Ob.nils (m : Nat) (H : Heap) : Ob m H .nils [] := .inl ⟨rfl, rfl⟩
theorem Ob.keep0 {m : Nat} {l : List UInt8} (h : Ob m H v l) (k : Keep none H H') : Ob m H' v l := Own.keep0 h k
theorem Ob.keep {m : Nat} {x : Option Nat} {l : List UInt8} (h : Ob m H v l) (k : Keep x H H') (hx : ∀ b, x = some b → v.blk ≠ some b) : Ob m H' v l := Own.keep h k hx
theorem Ob.mono {m m' : Nat} {l : List UInt8} (h : Ob m H v l) (hm : m' ≤ m) : Ob m' H v l := Own.mono h hm
theorem Ob.ge {m : Nat} {l : List UInt8} (h : Ob m H v l) {b : Nat} (hb : v.blk = some b) : m ≤ b := Own.ge h hb
theorem Ob.lt {m : Nat} {l : List UInt8} (h : Ob m H v l) {b : Nat} (hb : v.blk = some b) : b < H.length := Own.lt h hb

theorem Ob.ne {m : Nat} {l : List UInt8} (h : Ob m H v l) {b : Nat} (hb : b < m) : v.blk ≠ some b := fun e => by have := h.ge e; omega
/-- What was there before an own slice is not it. -/
theorem Ob.apart {m : Nat} {l : List UInt8} (h : Ob m H v l) {x : AV} (hx : ∀ b, x.blk = some b → b < m) : ∀ b, x.blk = some b → v.blk ≠ some b := fun b hb => h.ne (hx b hb)
theorem Bs.at_ {t e : TypeId} {l : List UInt8} (h : Bs H v l) (he : asliceElem T t = some (e, 1)) {i : Nat} (hi : i < l.length) {k : IntKind} {z : Int} (hz : z = i) :
    ∃ b o, aindexAddr T t v (.int k z) = some (.ptr b o) ∧ H.read b o 1 = some [.int .u8 l[i].toNat] ∧ v.blk = some b := by
  obtain ⟨b, o, h1, h2, h3⟩ := Vs.at_ h he hi hz
  refine ⟨b, o, h1, ?_, h3⟩
  rw [h2, Nat.mul_one, byc_drop, byc_take, List.drop_eq_getElem_cons hi]
  rfl
theorem Bs.slice {t e : TypeId} {l : List UInt8} (h : Bs H v l) (he : asliceElem T t = some (e, 1)) {lo hi : Option AV} {i u : Nat} (hl : abound 0 lo = some i) (hh : abound l.length hi = some u) (hlu : i ≤ u) (hun : u ≤ l.length) :
    ∃ v', aslice T H t v lo hi none = some v' ∧ Bs H v' ((l.take u).drop i) ∧ (v'.blk = none ∨ v'.blk = v.blk) := by
  obtain ⟨v', h1, h2, h3⟩ := Vs.slice h he hl hh hlu hun
  refine ⟨v', h1, ?_, h3⟩
  rw [Nat.mul_one, Nat.mul_one, byc_drop, byc_take] at h2
  have e : (l.drop i).take (u - i) = (l.take u).drop i := by rw [List.drop_take]
  rw [e] at h2
  unfold Bs
  have : ((l.take u).drop i).length = u - i := by simp; omega
  rw [this]; exact h2
theorem Bs.str {src dst e : TypeId} {l : List UInt8} (h : Bs H v l) (he : asliceElem T src = some (e, 1)) (hd : tk T dst = .str) (hk : tk T e = .int .u8) : abytesStr T H src dst v = some (.str l) := by
  unfold abytesStr
  rw [he, hd]
  simp only [hk]
  rcases (Vs.sl h).2 with ⟨rfl, h0⟩ | ⟨rfl, h0⟩ | ⟨b, o, cap, rfl, hr⟩
  · rw [List.eq_nil_of_length_eq_zero h0]
  · rw [List.eq_nil_of_length_eq_zero h0]
  · rw [Nat.mul_one] at hr
    simp only [hr, Option.bind_some, abytes_byc, Option.map_some]
theorem Bs.src {tx e : TypeId} {l : List UInt8} (h : Bs H v l) (hk : tk T tx = .slice e) : asrc T H tx v 1 = some (l.length, byc l) := asrc_sl hk (Vs.sl h)
/-- A byte written into own bytes. -/
theorem wr_one (l : List AV) : ∀ (i : Nat) (x : AV), i < l.length → wr l i [x] = l.set i x := by
  intro i x hi
  simp [wr]
/-- A slice that comes in. -/
theorem Inp.slice {n : Nat} {t e : TypeId} {a : AV} (hk : tk T t = .slice e) (h : InpV T H (n + 1) t a) : ∃ (sz : Nat) (els : List (List AV)), asize T e = some sz ∧ Vs H a sz els.length els.flatten ∧ (els.length ≤ maxLen ∧ ∀ d, T e = some d → els.length * d.bytes ≤ reachBytes) ∧ (∀ x ∈ els, x.length = sz ∧ Inp T H n e x) ∨
    (a = .nils ∨ a = .emp) := by
  simp only [InpV, hk, Inp, List.cons.injEq, and_true] at h
  rcases h with rfl | rfl | ⟨b, len, sz, els, rfl, h2, h3, h4, h5, h6, h7⟩
  · exact ⟨0, [], .inr (.inl rfl)⟩
  · exact ⟨0, [], .inr (.inr rfl)⟩
  · have hfl : els.flatten.length = len * sz := by
      rw [← h6]
      have : ∀ l : List (List AV), (∀ x ∈ l, x.length = sz) → l.flatten.length = l.length * sz := fun l => by
        induction l with
        | nil => intro _; simp
        | cons x l ih => intro hx; rw [List.flatten_cons, List.length_append, hx x (by simp), ih fun y hy => hx y (by simp [hy]), List.length_cons, Nat.add_mul]; omega
      exact this els fun x hx => (h7 x hx).1
    refine ⟨sz, els, .inl ⟨h4, ⟨by rw [hfl, h6], .inr (.inr ⟨b, 0, none, _, by rw [h6], fun c hc => (by cases hc), h5, rfl, fun ho => rfl, by simp [hfl, h6], by rw [List.drop_zero, h6, ← hfl, List.take_length]⟩)⟩, by rw [h6]; exact h3, h7⟩⟩
theorem Inp.bytes {n : Nat} {t e : TypeId} {a : AV} (hk : tk T t = .slice e) (he : tk T e = .int .u8) (hs : asize T e = some 1) (h : InpV T H (n + 2) t a) : ∃ l, Bs H a l ∧ ∀ d, T e = some d → l.length * d.bytes ≤ reachBytes := by
  obtain ⟨sz, els, h | h⟩ := Inp.slice hk h
  · obtain ⟨h1, h2, h3, h4⟩ := h
    rw [hs] at h1; simp only [Option.some.injEq] at h1; subst h1
    have key : ∀ els : List (List AV), (∀ x ∈ els, x.length = 1 ∧ Inp T H (n + 1) e x) → ∃ l : List UInt8, els.flatten = byc l ∧ l.length = els.length := fun els => by
      induction els with
      | nil => intro _; exact ⟨[], rfl, rfl⟩
      | cons x els ih =>
        intro hx
        obtain ⟨l, h1, h2⟩ := ih fun y hy => hx y (by simp [hy])
        have := (hx x (by simp)).2
        simp only [Inp, he] at this
        obtain ⟨v, rfl, hw⟩ := this
        simp only [Lit.wf, IntKind.min, IntKind.max, IntKind.signed, IntKind.bits, Bool.and_eq_true, decide_eq_true_eq, if_true, Bool.false_eq_true, if_false] at hw
        refine ⟨UInt8.ofNat v.toNat :: l, ?_, by simp [h2]⟩
        rw [List.flatten_cons, h1, byc_cons]
        simp
        omega
    obtain ⟨l, h5, h6⟩ := key els h4
    refine ⟨l, ?_, by rw [h6]; exact h3.2⟩
    unfold Bs
    rw [h6, ← h5]; exact h2
  · refine ⟨[], ⟨rfl, ?_⟩, fun d _ => by simp⟩
    rcases h with rfl | rfl
    · exact .inl ⟨rfl, rfl⟩
    · exact .inr (.inl ⟨rfl, rfl⟩)

/-! ### Own bytes that grow -/
/-- From v at H to r at H': own bytes; nothing else that was there has turned. -/
structure Grow (m : Nat) (H : Heap) (v : AV) (H' : Heap) (r : AV) (l : List UInt8) : Prop where
  own : Ob m H' r l
  keep : Keep v.blk H H'
  new : ∀ b, r.blk = some b → v.blk = some b ∨ H.length ≤ b
theorem Grow.refl {m : Nat} {l : List UInt8} (h : Ob m H v l) : Grow m H v H v l := ⟨h, Keep.refl _ _, fun b hb => .inl hb⟩
theorem Grow.trans {m : Nat} {I J : Heap} {r s : AV} {k l : List UInt8} (h : Grow m H v I r k) (g : Grow m I r J s l) : Grow m H v J s l := by
  refine ⟨g.own, ⟨Nat.le_trans h.keep.len g.keep.len, fun b hb hx => ?_⟩, fun b hb => ?_⟩
  · rw [g.keep.at_ b (Nat.lt_of_lt_of_le hb h.keep.len) ?_]
    · exact h.keep.at_ b hb hx
    · intro e
      rcases h.new b e with h1 | h1
      · exact hx h1
      · omega
  · rcases g.new b hb with h1 | h1
    · exact h.new b h1
    · exact .inr (Nat.le_trans h.keep.len h1)
theorem Grow.pre {m : Nat} {I J : Heap} {s : AV} {l : List UInt8} (h : Keep none H I) (g : Grow m I v J s l) : Grow m H v J s l :=
  ⟨g.own, (Keep.weak h).trans g.keep, fun b hb => (g.new b hb).imp id (fun h1 => Nat.le_trans h.len h1)⟩
theorem Grow.post {m : Nat} {I J : Heap} {s : AV} {l : List UInt8} (g : Grow m H v I s l) (h : Keep none I J) : Grow m H v J s l :=
  ⟨g.own.keep0 h, g.keep.trans (Keep.weak h), g.new⟩
theorem Grow.ob {m : Nat} {H' : Heap} {r : AV} {l : List UInt8} (g : Grow m H v H' r l) : Ob m H' r l := g.own
theorem Grow.eq {m : Nat} {H' : Heap} {r : AV} {l l' : List UInt8} (g : Grow m H v H' r l) (h : l = l') : Grow m H v H' r l' := h ▸ g
/-- What began with nothing, or with what is new, leaves all as it was. -/
theorem Grow.keep0 {m : Nat} {G H' : Heap} {r : AV} {l : List UInt8} (g : Grow m H v H' r l) (k : Keep none G H) (hv : ∀ b, v.blk = some b → G.length ≤ b) : Keep none G H' :=
  ⟨Nat.le_trans k.len g.keep.len, fun b hb _ => by
    rw [g.keep.at_ b (Nat.lt_of_lt_of_le hb k.len) (fun e => by have := hv b e; omega)]
    exact k.at_ b hb (by simp)⟩
theorem Grow.fresh {m : Nat} {G H' : Heap} {r : AV} {l : List UInt8} (g : Grow m H v H' r l) (k : Keep none G H) (hv : ∀ b, v.blk = some b → G.length ≤ b) : ∀ b, r.blk = some b → G.length ≤ b := fun b hb => by
  rcases g.new b hb with h1 | h1
  · exact hv b h1
  · exact Nat.le_trans k.len h1
/-! ### texts and numbers in slices -/
def Ss (H : Heap) (v : AV) (l : List (List UInt8)) : Prop := Vs H v 1 l.length (l.map .str)
def Is (H : Heap) (v : AV) (k : IntKind) (l : List Int) : Prop := Vs H v 1 l.length (l.map (.int k))
theorem snoc_vs {cs : List AV} {st : St} {sz n : Nat} (hn : cs.length = n * sz) (hal : st.alive = true) : Vs (H ++ [⟨cs, sz, st⟩]) (.sl H.length 0 n none) sz n cs :=
  ⟨hn, .inr (.inr ⟨_, _, _, ⟨cs, sz, st⟩, rfl, fun c hc => (by cases hc), by simp, hal, fun _ => rfl, by simp [hn], by simp [← hn]⟩)⟩

end
end Go.Proofs.PI

