import Derived.Test.YtakmlfbejbelaaaCodeG
set_option linter.unusedSimpArgs false
set_option linter.unusedVariables false
set_option maxRecDepth 100000
set_option maxHeartbeats 2000000
namespace Go.Proofs.Ytakmlfbejbelaaa
open Go Go.Proofs Go.Proofs.PI
/-! ### plain: readers, commands and changes as bytes -/
theorem mem_short {l : List (List UInt8)} {n : Nat} (h : (l.map List.length).sum ≤ n) : ∀ x ∈ l, x.length ≤ n := by
  induction l with
  | nil => simp
  | cons a l ih =>
    simp only [List.map_cons, List.sum_cons] at h
    intro x hx
    rcases List.mem_cons.1 hx with rfl | hx
    · omega
    · exact ih (by omega) x hx
structure RS where
  l : List UInt8
  bad : Bool
/-- The code's own reader: what is read is gone, though it was too great. -/
def wideS (s : RS) : Nat × RS := match rd 0 s.l with
  | some p => (p.1, ⟨s.l.drop p.2, s.bad⟩)
  | none => (0, ⟨s.l, true⟩)
def numS (m : Nat) (s : RS) : Nat × RS := if (wideS s).1 > m then (0, ⟨(wideS s).2.l, true⟩) else wideS s
/-- The document's reader. -/
def numR (m : Nat) (s : RS) : Nat × RS := match rd 0 s.l with
  | some p => if p.1 > m then (0, ⟨s.l, true⟩) else (p.1, ⟨s.l.drop p.2, s.bad⟩)
  | none => (0, ⟨s.l, true⟩)
def textS (s : RS) : List UInt8 × RS := match cutL s.l with
  | some p => (p.1, ⟨p.2, s.bad⟩)
  | none => ([], ⟨s.l, true⟩)
def byteS (s : RS) : UInt8 × RS := match s.l with
  | [] => (0, ⟨[], true⟩)
  | x :: l => (x, ⟨l, s.bad⟩)
theorem wideS_enc {n : Nat} (h : n < 2 ^ 64) (r : List UInt8) (b : Bool) : wideS ⟨small n ++ r, b⟩ = (n, ⟨r, b⟩) := by
  unfold wideS; simp only [rd_small0 h r]; rw [List.drop_left]
theorem numS_enc {m n : Nat} (h : n < 2 ^ 64) (hm : n ≤ m) (r : List UInt8) (b : Bool) : numS m ⟨small n ++ r, b⟩ = (n, ⟨r, b⟩) := by
  unfold numS; rw [wideS_enc h]; simp only; rw [if_neg (by omega)]
theorem numR_enc {m n : Nat} (h : n < 2 ^ 64) (hm : n ≤ m) (r : List UInt8) (b : Bool) : numR m ⟨small n ++ r, b⟩ = (n, ⟨r, b⟩) := by
  unfold numR; simp only [rd_small0 h r]; rw [if_neg (by omega), List.drop_left]
theorem textS_enc {t : List UInt8} (h : t.length < 2 ^ 64) (r : List UInt8) (b : Bool) : textS ⟨textL t ++ r, b⟩ = (t, ⟨r, b⟩) := by
  unfold textS; simp only [cutL_text h]
theorem byteS_enc (x : UInt8) (r : List UInt8) (b : Bool) : byteS ⟨x :: r, b⟩ = (x, ⟨r, b⟩) := rfl
theorem wideS_lt (s : RS) : (wideS s).1 < 2 ^ 64 := by
  unfold wideS
  cases h : rd 0 s.l with
  | none => simp
  | some p => exact rd_lt64 h
theorem numS_le (m : Nat) (s : RS) : (numS m s).1 ≤ m := by
  unfold numS; split
  · simp
  · omega
theorem numR_le (m : Nat) (s : RS) : (numR m s).1 ≤ m := by
  unfold numR
  split
  · split
    · simp
    · simp only; omega
  · simp
theorem wideS_len (s : RS) : (wideS s).2.l.length ≤ s.l.length := by
  unfold wideS
  split
  · simp
  · simp
theorem numS_len (m : Nat) (s : RS) : (numS m s).2.l.length ≤ s.l.length := by
  unfold numS; split
  · exact wideS_len s
  · exact wideS_len s
theorem numR_len (m : Nat) (s : RS) : (numR m s).2.l.length ≤ s.l.length := by
  unfold numR
  split
  · split
    · simp
    · simp
  · simp
theorem textS_len (s : RS) : (textS s).1.length ≤ s.l.length ∧ (textS s).2.l.length ≤ s.l.length := by
  unfold textS
  cases h : cutL s.l with
  | none => simp
  | some p =>
    have := cutL_some (s := p.1) (r := p.2) h
    have h2 := congrArg List.length this
    rw [List.length_append, textL, List.length_append] at h2
    simp only; omega
theorem byteS_len (s : RS) : (byteS s).2.l.length ≤ s.l.length := by
  unfold byteS
  split
  · simp
  · rename_i h; rw [h]; simp
def numsL (l : List Int) : List UInt8 := l.flatMap fun x => small (IntKind.u64.wrap x).toNat
def textsL (l : List (List UInt8)) : List UInt8 := l.flatMap textL
theorem numsL_snoc (l : List Int) (i : Nat) (h : i < l.length) : numsL (l.take (i + 1)) = numsL (l.take i) ++ small (IntKind.u64.wrap l[i]).toNat := by
  rw [numsL, List.take_succ_eq_append_getElem h, List.flatMap_append]; simp [numsL]
theorem textsL_snoc (l : List (List UInt8)) (i : Nat) (h : i < l.length) : textsL (l.take (i + 1)) = textsL (l.take i) ++ textL l[i] := by
  rw [textsL, List.take_succ_eq_append_getElem h, List.flatMap_append]; simp [textsL]
theorem u64w_lt (x : Int) : (IntKind.u64.wrap x).toNat < 2 ^ 64 := by rw [IntKind.wrap_u64]; omega
theorem u64w_cast (x : Int) : (((IntKind.u64.wrap x).toNat : Nat) : Int) = IntKind.u64.wrap x := by rw [IntKind.wrap_u64]; omega
theorem u64w_id {x : Int} (h0 : 0 ≤ x) (h1 : x < 18446744073709551616) : IntKind.u64.wrap x = x := by rw [IntKind.wrap_u64]; omega
theorem numsL_len (l : List Int) : (numsL l).length ≤ 10 * l.length := by
  induction l with
  | nil => simp [numsL]
  | cons x l ih =>
    have := small_len10 (u64w_lt x)
    have e : numsL (x :: l) = small (IntKind.u64.wrap x).toNat ++ numsL l := rfl
    rw [e, List.length_append, List.length_cons]; omega
theorem textL_len {s : List UInt8} (h : s.length < 2 ^ 64) : (textL s).length ≤ s.length + 10 := by
  have := small_len10 h
  rw [textL, List.length_append]; omega
theorem textsL_len {l : List (List UInt8)} {m : Nat} (h : ∀ x ∈ l, x.length ≤ m) (hm : m < 2 ^ 64) : (textsL l).length ≤ (m + 10) * l.length := by
  induction l with
  | nil => simp [textsL]
  | cons x l ih =>
    have h1 := textL_len (s := x) (by have := h x (.head _); omega)
    have h2 := ih fun y hy => h y (.tail _ hy)
    have h3 := h x (.head _)
    have e : textsL (x :: l) = textL x ++ textsL l := rfl
    rw [e, List.length_append, List.length_cons, Nat.mul_add]; omega
/-! #### changes -/
structure Chg where
  kind : Int
  ten : Int
  ikey : List UInt8
  ival : List UInt8
  ifl : Int
  idue : Int
  iuniq : Int
  key : List UInt8
  why : Int
  to : Int
  prim : Bool
def Chg.cs (c : Chg) : List AV := [.int .u8 c.kind, .int .i64 c.ten, .str c.ikey, .str c.ival, .int .u32 c.ifl, .int .i64 c.idue, .int .u64 c.iuniq, .str c.key, .int .u8 c.why, .int .i64 c.to, .bool c.prim]
def Chg.av (c : Chg) : AV := .agg [.int .u8 c.kind, .int .i64 c.ten, .str c.ikey, .str c.ival, .int .u32 c.ifl, .int .i64 c.idue, .int .u64 c.iuniq, .str c.key, .int .u8 c.why, .int .i64 c.to, .bool c.prim]
def chgE : Enc Chg := ⟨11, Chg.cs, fun _ => rfl, fun x a ha => by
  simp only [Chg.cs, List.mem_cons, List.not_mem_nil, or_false] at ha; rcases ha with rfl | rfl | rfl | rfl | rfl | rfl | rfl | rfl | rfl | rfl | rfl <;> rfl⟩
theorem chgE_cells (c : Chg) : chgE.cells c = [.int .u8 c.kind, .int .i64 c.ten, .str c.ikey, .str c.ival, .int .u32 c.ifl, .int .i64 c.idue, .int .u64 c.iuniq, .str c.key, .int .u8 c.why, .int .i64 c.to, .bool c.prim] := rfl
structure Chg.Ok (c : Chg) : Prop where
  kind : 0 ≤ c.kind ∧ c.kind < 256
  ifl : 0 ≤ c.ifl ∧ c.ifl < 4294967296
  iuniq : 0 ≤ c.iuniq ∧ c.iuniq < 18446744073709551616
  why : 0 ≤ c.why ∧ c.why < 256
def chg0 (k : Int) : Chg := ⟨k, 0, [], [], 0, 0, 0, [], 0, 0, false⟩
def Chg.bare (c : Chg) : Chg :=
  if c.kind = 1 then ⟨c.kind, c.ten, c.ikey, c.ival, c.ifl, c.idue, c.iuniq, [], 0, 0, false⟩
  else if c.kind = 2 then ⟨c.kind, c.ten, [], [], 0, 0, 0, c.key, c.why, 0, false⟩
  else if c.kind = 3 then ⟨c.kind, c.ten, [], [], 0, 0, 0, [], 0, 0, false⟩
  else if c.kind = 4 then ⟨c.kind, 0, [], [], 0, 0, 0, [], 0, c.to, false⟩
  else if c.kind = 5 then ⟨c.kind, c.ten, [], [], 0, 0, 0, [], 0, c.to, false⟩
  else if c.kind = 6 then ⟨c.kind, 0, [], [], 0, 0, 0, [], 0, c.to, c.prim⟩
  else if c.kind = 7 then ⟨c.kind, 0, [], [], 0, 0, 0, [], 0, c.to, false⟩ else chg0 c.kind
def Chg.goodP (c : Chg) : Prop :=
  if c.kind = 1 then (1 ≤ c.ikey.length ∧ c.ikey.length ≤ 32) ∧ c.ival.length ≤ 512 ∧ 0 ≤ c.idue ∧ c.idue ≤ 1099511627776
  else if c.kind = 2 then (1 ≤ c.key.length ∧ c.key.length ≤ 32) ∧ (c.why = 1 ∨ c.why = 2)
  else if c.kind = 3 then True
  else if c.kind = 4 then 0 ≤ c.to ∧ c.to ≤ 1099511627776
  else if c.kind = 5 then 0 ≤ c.to ∧ c.to ≤ 16
  else if c.kind = 6 then 0 ≤ c.to ∧ c.to ≤ 2147483647
  else if c.kind = 7 then 0 ≤ c.to ∧ c.to ≤ 2147483647 else False
open Classical in
noncomputable def Chg.mayB (c : Chg) : Bool := decide (c.goodP ∧ (0 ≤ c.ten ∧ c.ten < 4) ∧ c.bare = c)
def Chg.putL (c : Chg) : List UInt8 := UInt8.ofNat c.kind.toNat ::
  (if c.kind = 1 then small c.ten.toNat ++ (textL c.ikey ++ (textL c.ival ++ (small c.ifl.toNat ++ (small c.idue.toNat ++ small c.iuniq.toNat))))
  else if c.kind = 2 then small c.ten.toNat ++ (textL c.key ++ [UInt8.ofNat c.why.toNat])
  else if c.kind = 3 then small c.ten.toNat
  else if c.kind = 4 then small c.to.toNat
  else if c.kind = 5 then small c.ten.toNat ++ small c.to.toNat
  else if c.kind = 6 then small c.to.toNat ++ [if c.prim then 1 else 0]
  else if c.kind = 7 then small c.to.toNat else [])
noncomputable def changesL (l : List Chg) : List UInt8 × Int :=
  if l.length > 4096 then ([], 4) else if l.all Chg.mayB = false then ([], 8)
  else if (small l.length ++ l.flatMap Chg.putL).length > 65536 then ([], 3) else (small l.length ++ l.flatMap Chg.putL, 0)
/-- One change is read, by readers of numbers. -/
def rd1 (num : Nat → RS → Nat × RS) (wide : RS → Nat × RS) (kd : Int) (s : RS) : Chg × RS :=
  let t := num 4 s; let a := textS t.2; let b := textS a.2; let f := num 4294967295 b.2; let d := num 1099511627776 f.2; let u := wide d.2
  (⟨kd, t.1, a.1, b.1, f.1, d.1, u.1, [], 0, 0, false⟩, u.2)
def rd2 (num : Nat → RS → Nat × RS) (kd : Int) (s : RS) : Chg × RS :=
  let t := num 4 s; let a := textS t.2; let w := byteS a.2
  (⟨kd, t.1, [], [], 0, 0, 0, a.1, w.1.toNat, 0, false⟩, w.2)
def rd3 (num : Nat → RS → Nat × RS) (kd : Int) (s : RS) : Chg × RS := (⟨kd, (num 4 s).1, [], [], 0, 0, 0, [], 0, 0, false⟩, (num 4 s).2)
def rdTo (num : Nat → RS → Nat × RS) (m : Nat) (kd : Int) (s : RS) : Chg × RS := (⟨kd, 0, [], [], 0, 0, 0, [], 0, (num m s).1, false⟩, (num m s).2)
def rd5 (num : Nat → RS → Nat × RS) (m : Nat) (kd : Int) (s : RS) : Chg × RS := (⟨kd, (num 4 s).1, [], [], 0, 0, 0, [], 0, (num m (num 4 s).2).1, false⟩, (num m (num 4 s).2).2)
def rd6 (num : Nat → RS → Nat × RS) (m : Nat) (kd : Int) (s : RS) : Chg × RS := (⟨kd, 0, [], [], 0, 0, 0, [], 0, (num m s).1, decide ((byteS (num m s).2).1.toNat = 1)⟩, (byteS (num m s).2).2)
def changeG (num : Nat → RS → Nat × RS) (wide : RS → Nat × RS) (mq me : Nat) (fin : RS → RS) (s : RS) : Chg × RS :=
  if (byteS s).1.toNat = 1 then rd1 num wide 1 (byteS s).2
  else if (byteS s).1.toNat = 2 then rd2 num 2 (byteS s).2
  else if (byteS s).1.toNat = 3 then rd3 num 3 (byteS s).2
  else if (byteS s).1.toNat = 4 then rdTo num 1099511627776 4 (byteS s).2
  else if (byteS s).1.toNat = 5 then rd5 num mq 5 (byteS s).2
  else if (byteS s).1.toNat = 6 then rd6 num me 6 (byteS s).2
  else if (byteS s).1.toNat = 7 then rdTo num me 7 (byteS s).2
  else (chg0 (byteS s).1.toNat, fin (byteS s).2)
/-- The code's own way, the document's way. -/
def changeS : RS → Chg × RS := changeG numS wideS 1099511627776 1099511627776 id
def changeR : RS → Chg × RS := changeG numR (numR 18446744073709551615) 16 2147483647 fun s => ⟨s.l, true⟩
def readsGo (f : RS → Chg × RS) : Nat → RS → List Chg → List Chg × RS
  | 0, s, acc => (acc, s)
  | n + 1, s, acc => if (f s).2.bad = true then (acc ++ [(f s).1], (f s).2) else readsGo f n (f s).2 (acc ++ [(f s).1])
theorem may_facts {c : Chg} (ho : c.Ok) (h : c.mayB = true) : (1 ≤ c.kind ∧ c.kind ≤ 7) ∧ (0 ≤ c.ten ∧ c.ten < 4) ∧ c.bare = c ∧ c.goodP := by
  simp only [Chg.mayB, decide_eq_true_eq] at h
  obtain ⟨h1, h2, h3⟩ := h
  refine ⟨?_, h2, h3, h1⟩
  unfold Chg.goodP at h1
  have := ho.kind
  refine ⟨?_, ?_⟩ <;> (repeat' split at h1) <;> first | exact h1.elim | omega
theorem kbyte {k : Int} (h : 0 ≤ k ∧ k < 256) : ((UInt8.ofNat k.toNat).toNat : Int) = k := by
  rw [UInt8.toNat_ofNat']; omega
theorem kbyte_i (b : UInt8) : UInt8.ofNat ((b.toNat : Int)).toNat = b := by simp
theorem pbyte (b : Bool) : decide ((if b = true then (1 : UInt8) else 0).toNat = 1) = b := by cases b <;> rfl
structure NumOk (num : Nat → RS → Nat × RS) (wide : RS → Nat × RS) : Prop where
  enc : ∀ m n r b, n < 2 ^ 64 → n ≤ m → num m ⟨small n ++ r, b⟩ = (n, ⟨r, b⟩)
  wenc : ∀ n r b, n < 2 ^ 64 → wide ⟨small n ++ r, b⟩ = (n, ⟨r, b⟩)
  le : ∀ m s, (num m s).1 ≤ m
  wlt : ∀ s, (wide s).1 < 2 ^ 64
theorem numS_ok : NumOk numS wideS := ⟨fun m n r b h h' => numS_enc h h' r b, fun n r b h => wideS_enc h r b, numS_le, wideS_lt⟩
theorem numR_ok : NumOk numR (numR 18446744073709551615) := ⟨fun m n r b h h' => numR_enc h h' r b, fun n r b h => numR_enc h (by omega) r b, numR_le, fun s => by have := numR_le 18446744073709551615 s; omega⟩
theorem changeG_enc {num : Nat → RS → Nat × RS} {wide : RS → Nat × RS} (hn : NumOk num wide) {mq me : Nat} (hmq : 16 ≤ mq) (hme : 2147483647 ≤ me) {fin : RS → RS} {c : Chg} (ho : c.Ok) (h : c.mayB = true) (r : List UInt8) (b : Bool) : changeG num wide mq me fin ⟨c.putL ++ r, b⟩ = (c, ⟨r, b⟩) := by
  obtain ⟨h1, h2, h3, h4⟩ := may_facts ho h
  have hk := kbyte ho.kind
  have hf := ho.ifl
  have hu := ho.iuniq
  have hw := kbyte ho.why
  unfold changeG Chg.putL
  rw [List.cons_append, byteS_enc]
  unfold Chg.bare at h3
  unfold Chg.goodP at h4
  have cases7 : c.kind = 1 ∨ c.kind = 2 ∨ c.kind = 3 ∨ c.kind = 4 ∨ c.kind = 5 ∨ c.kind = 6 ∨ c.kind = 7 := by omega
  obtain ⟨kind, ten, ikey, ival, ifl, idue, iuniq, key, why, to, prim⟩ := c
  simp only at *
  have e1 : (UInt8.ofNat (Int.toNat 1)).toNat = 1 := rfl
  have e2 : (UInt8.ofNat (Int.toNat 2)).toNat = 2 := rfl
  have e3 : (UInt8.ofNat (Int.toNat 3)).toNat = 3 := rfl
  have e4 : (UInt8.ofNat (Int.toNat 4)).toNat = 4 := rfl
  have e5 : (UInt8.ofNat (Int.toNat 5)).toNat = 5 := rfl
  have e6 : (UInt8.ofNat (Int.toNat 6)).toNat = 6 := rfl
  have e7 : (UInt8.ofNat (Int.toNat 7)).toNat = 7 := rfl
  rcases cases7 with rfl | rfl | rfl | rfl | rfl | rfl | rfl
  all_goals simp only [e1, e2, e3, e4, e5, e6, e7, Int.reduceEq, Nat.reduceEqDiff, if_true, if_false, Chg.mk.injEq, true_and, and_true] at h3 h4 ⊢
  · obtain ⟨rfl, rfl, rfl, rfl⟩ := h3
    simp only [rd1, List.append_assoc]
    rw [hn.enc _ _ _ _ (by omega) (by omega), textS_enc (by omega), textS_enc (by omega), hn.enc _ _ _ _ (by omega) (by omega), hn.enc _ _ _ _ (by omega) (by omega), ← List.append_nil (small (Int.toNat iuniq)), List.append_assoc, List.nil_append, hn.wenc _ _ _ (by omega)]
    simp only [Prod.mk.injEq, Chg.mk.injEq, true_and, and_true]
    omega
  · obtain ⟨rfl, rfl, rfl, rfl, rfl, rfl, rfl⟩ := h3
    simp only [rd2, List.append_assoc, List.cons_append, List.nil_append]
    rw [hn.enc _ _ _ _ (by omega) (by omega), textS_enc (by omega), byteS_enc]
    simp only [Prod.mk.injEq, Chg.mk.injEq, true_and, and_true]
    omega
  · obtain ⟨rfl, rfl, rfl, rfl, rfl, rfl, rfl, rfl, rfl⟩ := h3
    rw [rd3, hn.enc _ _ _ _ (by omega) (by omega)]
    simp only [Prod.mk.injEq, Chg.mk.injEq, true_and, and_true]
    omega
  · obtain ⟨rfl, rfl, rfl, rfl, rfl, rfl, rfl, rfl, rfl⟩ := h3
    rw [rdTo, hn.enc _ _ _ _ (by omega) (by omega)]
    simp only [Prod.mk.injEq, Chg.mk.injEq, true_and, and_true]
    omega
  · obtain ⟨rfl, rfl, rfl, rfl, rfl, rfl, rfl, rfl⟩ := h3
    simp only [rd5, List.append_assoc]
    rw [hn.enc _ _ _ _ (by omega) (by omega), hn.enc _ _ _ _ (by omega) (by omega)]
    simp only [Prod.mk.injEq, Chg.mk.injEq, true_and, and_true]
    omega
  · obtain ⟨rfl, rfl, rfl, rfl, rfl, rfl, rfl, rfl⟩ := h3
    simp only [rd6, List.append_assoc, List.cons_append, List.nil_append]
    rw [hn.enc _ _ _ _ (by omega) (by omega), byteS_enc]
    simp only [Prod.mk.injEq, Chg.mk.injEq, true_and, and_true, pbyte]
    omega
  · obtain ⟨rfl, rfl, rfl, rfl, rfl, rfl, rfl, rfl, rfl⟩ := h3
    rw [rdTo, hn.enc _ _ _ _ (by omega) (by omega)]
    simp only [Prod.mk.injEq, Chg.mk.injEq, true_and, and_true]
    omega
theorem changeS_enc {c : Chg} (ho : c.Ok) (h : c.mayB = true) (r : List UInt8) (b : Bool) : changeS ⟨c.putL ++ r, b⟩ = (c, ⟨r, b⟩) := changeG_enc numS_ok (by omega) (by omega) ho h r b
theorem changeR_enc {c : Chg} (ho : c.Ok) (h : c.mayB = true) (r : List UInt8) (b : Bool) : changeR ⟨c.putL ++ r, b⟩ = (c, ⟨r, b⟩) := changeG_enc numR_ok (by omega) (by omega) ho h r b
theorem readsGo_enc {f : RS → Chg × RS} (hf : ∀ (c : Chg) (r : List UInt8), c.Ok → c.mayB = true → f ⟨c.putL ++ r, false⟩ = (c, ⟨r, false⟩)) : ∀ (l acc : List Chg), (∀ c ∈ l, c.Ok) → l.all Chg.mayB = true → readsGo f l.length ⟨l.flatMap Chg.putL, false⟩ acc = (acc ++ l, ⟨[], false⟩)
  | [], acc, _, _ => by simp [readsGo]
  | c :: l, acc, ho, hm => by
    simp only [List.all_cons, Bool.and_eq_true] at hm
    have h1 := hf c (l.flatMap Chg.putL) (ho c (.head _)) hm.1
    simp only [List.length_cons, List.flatMap_cons, readsGo, h1, Bool.false_eq_true, if_false]
    rw [readsGo_enc hf l _ (fun c hc => ho c (.tail _ hc)) hm.2, List.append_assoc]; rfl
/-- The changes that bytes are of. -/
def ChgOf (b : List UInt8) (l : List Chg) : Prop := (∀ c ∈ l, c.Ok) ∧ changesL l = (b, 0)
theorem changesL_ok {l : List Chg} {b : List UInt8} (h : changesL l = (b, 0)) : l.length ≤ 4096 ∧ l.all Chg.mayB = true ∧ b = small l.length ++ l.flatMap Chg.putL ∧ b.length ≤ 65536 := by
  unfold changesL at h
  split at h
  · simp at h
  · split at h
    · simp at h
    · split at h
      · simp at h
      · rename_i h1 h2 h3
        simp only [Prod.mk.injEq, and_true] at h
        refine ⟨by omega, by simpa using h2, h.symm, by rw [← h]; omega⟩
def ofChgs (num : Nat → RS → Nat × RS) (f : RS → Chg × RS) (b : List UInt8) : List Chg × RS := readsGo f (num 4096 ⟨b, false⟩).1 (num 4096 ⟨b, false⟩).2 []
theorem ofChgs_enc {num : Nat → RS → Nat × RS} (hnum : ∀ m n r, n < 2 ^ 64 → n ≤ m → num m ⟨small n ++ r, false⟩ = (n, ⟨r, false⟩)) {f : RS → Chg × RS} (hf : ∀ (c : Chg) (r : List UInt8), c.Ok → c.mayB = true → f ⟨c.putL ++ r, false⟩ = (c, ⟨r, false⟩)) {b : List UInt8} {l : List Chg} (h : ChgOf b l) :
    ofChgs num f b = (l, ⟨[], false⟩) := by
  obtain ⟨h1, h2, h3, _⟩ := changesL_ok h.2
  unfold ofChgs
  rw [h3, hnum _ _ _ (by omega) (by omega)]
  simp only
  rw [readsGo_enc hf l [] h.1 h2]; rfl
open Classical in
noncomputable def ofChangesL (b : List UInt8) : List Chg × Int :=
  if b.length > 65536 then ([], 3) else if h : ∃ l, ChgOf b l then (Classical.choose h, 0) else ([], 8)
theorem ofChangesL_some {b : List UInt8} {l : List Chg} (h : ChgOf b l) : ofChangesL b = (l, 0) := by
  have hb := (changesL_ok h.2).2.2.2
  unfold ofChangesL
  rw [if_neg (by omega), dif_pos ⟨l, h⟩]
  have h1 := ofChgs_enc (num := numS) (f := changeS) (fun m n r a b => numS_enc a b r false) (fun c r a b => changeS_enc a b r false) h
  have h2 := ofChgs_enc (num := numS) (f := changeS) (fun m n r a b => numS_enc a b r false) (fun c r a b => changeS_enc a b r false) (Classical.choose_spec (⟨l, h⟩ : ∃ l, ChgOf b l))
  rw [h1] at h2
  exact congrArg (·, (0 : Int)) (congrArg Prod.fst h2).symm
theorem ofChangesL_none {b : List UInt8} (hb : b.length ≤ 65536) (h : ∀ l, ¬ ChgOf b l) : ofChangesL b = ([], 8) := by
  unfold ofChangesL
  rw [if_neg (by omega), dif_neg fun ⟨l, hl⟩ => h l hl]
theorem ofChangesL_e {b : List UInt8} : (ofChangesL b).2 = 0 → ChgOf b (ofChangesL b).1 := by
  unfold ofChangesL
  split
  · simp
  · split
    · rename_i h; exact fun _ => Classical.choose_spec h
    · simp
theorem ofChangesL_e2 {b : List UInt8} : (ofChangesL b).2 ≠ 0 → (ofChangesL b).1 = [] := by
  unfold ofChangesL
  split
  · simp
  · split
    · simp
    · simp
theorem changeG_ok {num : Nat → RS → Nat × RS} {wide : RS → Nat × RS} (hn : NumOk num wide) {mq me : Nat} {fin : RS → RS} (s : RS) : (changeG num wide mq me fin s).1.Ok := by
  have hb := (byteS s).1.toNat_lt
  have h0 : (0 : Int) ≤ 0 ∧ (0 : Int) < 256 := by omega
  have hk : ∀ x : UInt8, (0 : Int) ≤ (x.toNat : Int) ∧ (x.toNat : Int) < 256 := fun x => by have := x.toNat_lt; omega
  have o1 : ∀ k, (0 : Int) ≤ k ∧ k < 256 → ∀ s, (rd1 num wide k s).1.Ok := fun k hk' s => ⟨hk', by
      have := hn.le 4294967295 (textS (textS (num 4 s).2).2).2
      show (0 : Int) ≤ ((num 4294967295 (textS (textS (num 4 s).2).2).2).1 : Int) ∧ ((num 4294967295 (textS (textS (num 4 s).2).2).2).1 : Int) < _
      omega, by
      have := hn.wlt (num 1099511627776 (num 4294967295 (textS (textS (num 4 s).2).2).2).2).2
      show (0 : Int) ≤ ((wide (num 1099511627776 (num 4294967295 (textS (textS (num 4 s).2).2).2).2).2).1 : Int) ∧ ((wide (num 1099511627776 (num 4294967295 (textS (textS (num 4 s).2).2).2).2).2).1 : Int) < _
      omega, h0⟩
  have o2 : ∀ k, (0 : Int) ≤ k ∧ k < 256 → ∀ s, (rd2 num k s).1.Ok := fun k hk' s => ⟨hk', by show (0 : Int) ≤ 0 ∧ (0 : Int) < _; omega, by show (0 : Int) ≤ 0 ∧ (0 : Int) < _; omega, hk _⟩
  have oz : ∀ c : Chg, (0 ≤ c.kind ∧ c.kind < 256) → c.ifl = 0 → c.iuniq = 0 → c.why = 0 → c.Ok := fun c h1 h2 h3 h4 => ⟨h1, by omega, by omega, by omega⟩
  unfold changeG
  repeat' split
  · exact o1 _ (by omega) _
  · exact o2 _ (by omega) _
  · exact oz _ (show (0 : Int) ≤ 3 ∧ (3 : Int) < 256 by omega) rfl rfl rfl
  · exact oz _ (show (0 : Int) ≤ 4 ∧ (4 : Int) < 256 by omega) rfl rfl rfl
  · exact oz _ (show (0 : Int) ≤ 5 ∧ (5 : Int) < 256 by omega) rfl rfl rfl
  · exact oz _ (show (0 : Int) ≤ 6 ∧ (6 : Int) < 256 by omega) rfl rfl rfl
  · exact oz _ (show (0 : Int) ≤ 7 ∧ (7 : Int) < 256 by omega) rfl rfl rfl
  · exact oz _ (hk _) rfl rfl rfl
theorem changeS_ok (s : RS) : (changeS s).1.Ok := changeG_ok numS_ok s
theorem changeR_ok (s : RS) : (changeR s).1.Ok := changeG_ok numR_ok s
theorem readsGo_ok {f : RS → Chg × RS} (hf : ∀ s, (f s).1.Ok) : ∀ (n : Nat) (s : RS) (acc : List Chg), (∀ c ∈ acc, c.Ok) → ∀ c ∈ (readsGo f n s acc).1, c.Ok
  | 0, s, acc, h => h
  | n + 1, s, acc, h => by
    have h2 : ∀ c ∈ acc ++ [(f s).1], c.Ok := fun c hc => by
      rcases List.mem_append.1 hc with hc | hc
      · exact h c hc
      · simp at hc; rw [hc]; exact hf s
    rw [readsGo]
    split
    · exact h2
    · exact readsGo_ok hf n _ _ h2
theorem readsGo_bad {f : RS → Chg × RS} : ∀ (n : Nat) (s : RS) (acc : List Chg), (readsGo f n s acc).1.length ≤ acc.length + n
  | 0, s, acc => by simp [readsGo]
  | n + 1, s, acc => by
    rw [readsGo]
    split
    · simp
    · have := readsGo_bad (f := f) n (f s).2 (acc ++ [(f s).1]); simp at this; omega
/-! ### lists of numbers and texts -/
theorem nums_spec {m : Nat} (v w : AV) (bs : List UInt8) (l : List Int) (H : Heap) (ho : Ob m H v bs) (hm : m ≤ H.length) (hl : Is H w .i64 l) (hne : ∀ b, w.blk = some b → v.blk ≠ some b) (hc : bs.length + 10 * l.length ≤ 140737488355000) :
    WC Try.prog 44 [v, w] H fun r H' => Grow m H v H' r (bs ++ numsL l) := by
  refine WC_of_K fun K hK => ?_
  refine WC_of_body hT Try.func44 rfl (by simp [Try.f44]) (by simp [Try.f44]) (wx_sound hT _ ?_)
  simp only [Try.f44]
  simp only [go_sem, Nat.reduceLT, Nat.reduceEqDiff, Nat.reduceAdd, Nat.reduceMul, Nat.reduceSub, Nat.reduceLeDiff, Int.reduceToNat, Int.reduceNeg, Int.reduceLT, Int.reduceLE, Int.reduceEq, reduceCtorEq]
  rw [hl.alen tk101]
  simp only [go_sem, Nat.reduceLT, Nat.reduceEqDiff, Nat.reduceAdd, Nat.reduceMul, Nat.reduceSub, Nat.reduceLeDiff, Int.reduceToNat, Int.reduceNeg, Int.reduceLT, Int.reduceLE, Int.reduceEq, reduceCtorEq]
  refine WX_loop (fun k fr' H' => ∃ (i : Nat) (a : AV), k = l.length - i ∧ i ≤ l.length ∧ fr'.get 0 = a ∧ fr'.get 7 = w ∧ fr'.get 8 = .int .i64 l.length ∧ fr'.get 9 = .int .i64 i ∧ Grow m H v H' a (bs ++ numsL (l.take i))) l.length ⟨0, v, rfl, by omega, ?_, ?_, ?_, ?_, (Grow.refl ho).eq (by simp [numsL])⟩ ?_
  · simp only [go_sem, Nat.reduceLT, Nat.reduceEqDiff, Nat.reduceAdd, Nat.reduceMul, Nat.reduceSub, Nat.reduceLeDiff, Int.reduceToNat, Int.reduceNeg, Int.reduceLT, Int.reduceLE, Int.reduceEq, reduceCtorEq]
  · simp only [go_sem, Nat.reduceLT, Nat.reduceEqDiff, Nat.reduceAdd, Nat.reduceMul, Nat.reduceSub, Nat.reduceLeDiff, Int.reduceToNat, Int.reduceNeg, Int.reduceLT, Int.reduceLE, Int.reduceEq, reduceCtorEq]
  · simp only [go_sem, Nat.reduceLT, Nat.reduceEqDiff, Nat.reduceAdd, Nat.reduceMul, Nat.reduceSub, Nat.reduceLeDiff, Int.reduceToNat, Int.reduceNeg, Int.reduceLT, Int.reduceLE, Int.reduceEq, reduceCtorEq]
  · simp only [go_sem, Nat.reduceLT, Nat.reduceEqDiff, Nat.reduceAdd, Nat.reduceMul, Nat.reduceSub, Nat.reduceLeDiff, Int.reduceToNat, Int.reduceNeg, Int.reduceLT, Int.reduceLE, Int.reduceEq, reduceCtorEq]
    rfl
  · rintro k fr' H' ⟨i, a, rfl, hi, f0, f7, f8, f9, g⟩
    refine wx_sound hT _ ?_
    simp only [go_sem, Nat.reduceLT, Nat.reduceEqDiff, Nat.reduceAdd, Nat.reduceMul, Nat.reduceSub, Nat.reduceLeDiff, Int.reduceToNat, Int.reduceNeg, Int.reduceLT, Int.reduceLE, Int.reduceEq, reduceCtorEq, f0, f7, f8, f9]
    refine IfB_dec (fun hlt => ?_) (fun hge => ?_)
    · have hlt' : i < l.length := by omega
      obtain ⟨b, o, e1, e2, _⟩ := (Vs.keep hl g.keep hne).at1 se101 hlt' (k := .i64) (z := i) rfl
      have hlen := numsL_len (l.take i)
      rw [List.length_take] at hlen
      have hs := small_len10 (u64w_lt l[i])
      simp only [go_sem, Nat.reduceLT, Nat.reduceEqDiff, Nat.reduceAdd, Nat.reduceMul, Nat.reduceSub, Nat.reduceLeDiff, Int.reduceToNat, Int.reduceNeg, Int.reduceLT, Int.reduceLE, Int.reduceEq, reduceCtorEq, f0, f7, f8, f9, e1, e2]
      rw [← u64w_cast]
      refine (small_spec (IntKind.u64.wrap l[i]).toNat (u64w_lt _) _).mono ?_
      rintro r H1 ⟨o1, k1⟩
      simp only [go_sem, Nat.reduceLT, Nat.reduceEqDiff, Nat.reduceAdd, Nat.reduceMul, Nat.reduceSub, Nat.reduceLeDiff, Int.reduceToNat, Int.reduceNeg, Int.reduceLT, Int.reduceLE, Int.reduceEq, reduceCtorEq]
      refine append_gr (g.own.keep0 k1) se30 az5 td5 rfl (o1.bs.src tk30) (by simp; omega) (by have := g.keep.len; have := k1.len; omega) ?_
      intro v' H2 g2
      simp only [go_sem, Nat.reduceLT, Nat.reduceEqDiff, Nat.reduceAdd, Nat.reduceMul, Nat.reduceSub, Nat.reduceLeDiff, Int.reduceToNat, Int.reduceNeg, Int.reduceLT, Int.reduceLE, Int.reduceEq, reduceCtorEq, f0, f7, f8, f9]
      refine ⟨l.length - (i + 1), by omega, i + 1, v', rfl, by omega, by simp only [go_sem, Nat.reduceLT, Nat.reduceEqDiff, Nat.reduceAdd, Nat.reduceMul, Nat.reduceSub, Nat.reduceLeDiff, Int.reduceToNat, Int.reduceNeg, Int.reduceLT, Int.reduceLE, Int.reduceEq, reduceCtorEq], by simp only [go_sem, Nat.reduceLT, Nat.reduceEqDiff, Nat.reduceAdd, Nat.reduceMul, Nat.reduceSub, Nat.reduceLeDiff, Int.reduceToNat, Int.reduceNeg, Int.reduceLT, Int.reduceLE, Int.reduceEq, reduceCtorEq, f7], by simp only [go_sem, Nat.reduceLT, Nat.reduceEqDiff, Nat.reduceAdd, Nat.reduceMul, Nat.reduceSub, Nat.reduceLeDiff, Int.reduceToNat, Int.reduceNeg, Int.reduceLT, Int.reduceLE, Int.reduceEq, reduceCtorEq, f8], ?_, (g.trans (Grow.pre k1 g2)).eq ?_⟩
      · simp only [go_sem, Nat.reduceLT, Nat.reduceEqDiff, Nat.reduceAdd, Nat.reduceMul, Nat.reduceSub, Nat.reduceLeDiff, Int.reduceToNat, Int.reduceNeg, Int.reduceLT, Int.reduceLE, Int.reduceEq, reduceCtorEq]
        rw [i64_id (i + 1 : Int) (by omega) (by omega)]; rfl
      · rw [numsL_snoc l i hlt']; simp
    · have : i = l.length := by omega
      subst this
      simp only [go_sem, Nat.reduceLT, Nat.reduceEqDiff, Nat.reduceAdd, Nat.reduceMul, Nat.reduceSub, Nat.reduceLeDiff, Int.reduceToNat, Int.reduceNeg, Int.reduceLT, Int.reduceLE, Int.reduceEq, reduceCtorEq, f0]
      rw [List.take_length] at g
      exact hK _ _ g
theorem texts_spec {m : Nat} (v w : AV) (bs : List UInt8) (l : List (List UInt8)) (H : Heap) (ho : Ob m H v bs) (hm : m ≤ H.length) (hl : Ss H w l) (hne : ∀ b, w.blk = some b → v.blk ≠ some b) (hc : bs.length + (textsL l).length ≤ 140737488354000) (hln : l.length ≤ 140737488355328) :
    WC Try.prog 43 [v, w] H fun r H' => Grow m H v H' r (bs ++ textsL l) := by
  refine WC_of_K fun K hK => ?_
  refine WC_of_body hT Try.func43 rfl (by simp [Try.f43]) (by simp [Try.f43]) (wx_sound hT _ ?_)
  simp only [Try.f43]
  simp only [go_sem, Nat.reduceLT, Nat.reduceEqDiff, Nat.reduceAdd, Nat.reduceMul, Nat.reduceSub, Nat.reduceLeDiff, Int.reduceToNat, Int.reduceNeg, Int.reduceLT, Int.reduceLE, Int.reduceEq, reduceCtorEq]
  rw [hl.alen tk42]
  simp only [go_sem, Nat.reduceLT, Nat.reduceEqDiff, Nat.reduceAdd, Nat.reduceMul, Nat.reduceSub, Nat.reduceLeDiff, Int.reduceToNat, Int.reduceNeg, Int.reduceLT, Int.reduceLE, Int.reduceEq, reduceCtorEq]
  refine WX_loop (fun k fr' H' => ∃ (i : Nat) (a : AV), k = l.length - i ∧ i ≤ l.length ∧ fr'.get 0 = a ∧ fr'.get 7 = w ∧ fr'.get 8 = .int .i64 l.length ∧ fr'.get 9 = .int .i64 i ∧ Grow m H v H' a (bs ++ textsL (l.take i))) l.length ⟨0, v, rfl, by omega, ?_, ?_, ?_, ?_, (Grow.refl ho).eq (by simp [textsL])⟩ ?_
  · simp only [go_sem, Nat.reduceLT, Nat.reduceEqDiff, Nat.reduceAdd, Nat.reduceMul, Nat.reduceSub, Nat.reduceLeDiff, Int.reduceToNat, Int.reduceNeg, Int.reduceLT, Int.reduceLE, Int.reduceEq, reduceCtorEq]
  · simp only [go_sem, Nat.reduceLT, Nat.reduceEqDiff, Nat.reduceAdd, Nat.reduceMul, Nat.reduceSub, Nat.reduceLeDiff, Int.reduceToNat, Int.reduceNeg, Int.reduceLT, Int.reduceLE, Int.reduceEq, reduceCtorEq]
  · simp only [go_sem, Nat.reduceLT, Nat.reduceEqDiff, Nat.reduceAdd, Nat.reduceMul, Nat.reduceSub, Nat.reduceLeDiff, Int.reduceToNat, Int.reduceNeg, Int.reduceLT, Int.reduceLE, Int.reduceEq, reduceCtorEq]
  · simp only [go_sem, Nat.reduceLT, Nat.reduceEqDiff, Nat.reduceAdd, Nat.reduceMul, Nat.reduceSub, Nat.reduceLeDiff, Int.reduceToNat, Int.reduceNeg, Int.reduceLT, Int.reduceLE, Int.reduceEq, reduceCtorEq]
    rfl
  · rintro k fr' H' ⟨i, a, rfl, hi, f0, f7, f8, f9, g⟩
    refine wx_sound hT _ ?_
    simp only [go_sem, Nat.reduceLT, Nat.reduceEqDiff, Nat.reduceAdd, Nat.reduceMul, Nat.reduceSub, Nat.reduceLeDiff, Int.reduceToNat, Int.reduceNeg, Int.reduceLT, Int.reduceLE, Int.reduceEq, reduceCtorEq, f0, f7, f8, f9]
    refine IfB_dec (fun hlt => ?_) (fun hge => ?_)
    · have hlt' : i < l.length := by omega
      obtain ⟨b, o, e1, e2, _⟩ := (Vs.keep hl g.keep hne).at1 se42 hlt' (k := .i64) (z := i) rfl
      have hsum : (textsL l).length = (textsL (l.take i)).length + (textL l[i]).length + (textsL (l.drop (i + 1))).length := by
        have : textsL l = textsL (l.take (i + 1)) ++ textsL (l.drop (i + 1)) := by rw [textsL, textsL, textsL, ← List.flatMap_append, List.take_append_drop]
        rw [this, textsL_snoc l i hlt', List.length_append, List.length_append]
      have hone : (textL l[i]).length = (small l[i].length).length + l[i].length := by simp [textL]
      simp only [go_sem, Nat.reduceLT, Nat.reduceEqDiff, Nat.reduceAdd, Nat.reduceMul, Nat.reduceSub, Nat.reduceLeDiff, Int.reduceToNat, Int.reduceNeg, Int.reduceLT, Int.reduceLE, Int.reduceEq, reduceCtorEq, f0, f7, f8, f9, e1, e2]
      refine (text_spec l[i] (by omega) _).mono ?_
      rintro r H1 ⟨o1, k1⟩
      simp only [go_sem, Nat.reduceLT, Nat.reduceEqDiff, Nat.reduceAdd, Nat.reduceMul, Nat.reduceSub, Nat.reduceLeDiff, Int.reduceToNat, Int.reduceNeg, Int.reduceLT, Int.reduceLE, Int.reduceEq, reduceCtorEq]
      refine append_gr (g.own.keep0 k1) se30 az5 td5 rfl (o1.bs.src tk30) (by rw [List.length_append]; omega) (by have := g.keep.len; have := k1.len; omega) ?_
      intro v' H2 g2
      simp only [go_sem, Nat.reduceLT, Nat.reduceEqDiff, Nat.reduceAdd, Nat.reduceMul, Nat.reduceSub, Nat.reduceLeDiff, Int.reduceToNat, Int.reduceNeg, Int.reduceLT, Int.reduceLE, Int.reduceEq, reduceCtorEq, f0, f7, f8, f9]
      refine ⟨l.length - (i + 1), by omega, i + 1, v', rfl, by omega, by simp only [go_sem, Nat.reduceLT, Nat.reduceEqDiff, Nat.reduceAdd, Nat.reduceMul, Nat.reduceSub, Nat.reduceLeDiff, Int.reduceToNat, Int.reduceNeg, Int.reduceLT, Int.reduceLE, Int.reduceEq, reduceCtorEq], by simp only [go_sem, Nat.reduceLT, Nat.reduceEqDiff, Nat.reduceAdd, Nat.reduceMul, Nat.reduceSub, Nat.reduceLeDiff, Int.reduceToNat, Int.reduceNeg, Int.reduceLT, Int.reduceLE, Int.reduceEq, reduceCtorEq, f7], by simp only [go_sem, Nat.reduceLT, Nat.reduceEqDiff, Nat.reduceAdd, Nat.reduceMul, Nat.reduceSub, Nat.reduceLeDiff, Int.reduceToNat, Int.reduceNeg, Int.reduceLT, Int.reduceLE, Int.reduceEq, reduceCtorEq, f8], ?_, (g.trans (Grow.pre k1 g2)).eq ?_⟩
      · simp only [go_sem, Nat.reduceLT, Nat.reduceEqDiff, Nat.reduceAdd, Nat.reduceMul, Nat.reduceSub, Nat.reduceLeDiff, Int.reduceToNat, Int.reduceNeg, Int.reduceLT, Int.reduceLE, Int.reduceEq, reduceCtorEq]
        rw [i64_id (i + 1 : Int) (by omega) (by omega)]; rfl
      · rw [textsL_snoc l i hlt']; simp
    · have : i = l.length := by omega
      subst this
      simp only [go_sem, Nat.reduceLT, Nat.reduceEqDiff, Nat.reduceAdd, Nat.reduceMul, Nat.reduceSub, Nat.reduceLeDiff, Int.reduceToNat, Int.reduceNeg, Int.reduceLT, Int.reduceLE, Int.reduceEq, reduceCtorEq, f0]
      rw [List.take_length] at g
      exact hK _ _ g
theorem texts_lst {m : Nat} (v : AV) (bs : List UInt8) (l : List (List UInt8)) (H : Heap) (ho : Ob m H v bs) (hm : m ≤ H.length) (hc : bs.length + (textsL l).length ≤ 140737488354000) (hln : l.length ≤ 140737488355328) :
    WC Try.prog 43 [v, Enc.str.lst l] H fun r H' => Grow m H v H' r (bs ++ textsL l) := by
  refine WC_of_K fun K hK => ?_
  refine WC_of_body hT Try.func43 rfl (by simp [Try.f43]) (by simp [Try.f43]) (wx_sound hT _ ?_)
  simp only [Try.f43]
  simp only [go_sem, Nat.reduceLT, Nat.reduceEqDiff, Nat.reduceAdd, Nat.reduceMul, Nat.reduceSub, Nat.reduceLeDiff, Int.reduceToNat, Int.reduceNeg, Int.reduceLT, Int.reduceLE, Int.reduceEq, reduceCtorEq]
  refine WX_loop (fun k fr' H' => ∃ (i : Nat) (a : AV), k = l.length - i ∧ i ≤ l.length ∧ fr'.get 0 = a ∧ fr'.get 7 = Enc.str.lst l ∧ fr'.get 8 = .int .i64 l.length ∧ fr'.get 9 = .int .i64 i ∧ Grow m H v H' a (bs ++ textsL (l.take i))) l.length ⟨0, v, rfl, by omega, ?_, ?_, ?_, ?_, (Grow.refl ho).eq (by simp [textsL])⟩ ?_
  · simp only [go_sem, Nat.reduceLT, Nat.reduceEqDiff, Nat.reduceAdd, Nat.reduceMul, Nat.reduceSub, Nat.reduceLeDiff, Int.reduceToNat, Int.reduceNeg, Int.reduceLT, Int.reduceLE, Int.reduceEq, reduceCtorEq]
  · simp only [go_sem, Nat.reduceLT, Nat.reduceEqDiff, Nat.reduceAdd, Nat.reduceMul, Nat.reduceSub, Nat.reduceLeDiff, Int.reduceToNat, Int.reduceNeg, Int.reduceLT, Int.reduceLE, Int.reduceEq, reduceCtorEq]
  · simp only [go_sem, Nat.reduceLT, Nat.reduceEqDiff, Nat.reduceAdd, Nat.reduceMul, Nat.reduceSub, Nat.reduceLeDiff, Int.reduceToNat, Int.reduceNeg, Int.reduceLT, Int.reduceLE, Int.reduceEq, reduceCtorEq]
  · simp only [go_sem, Nat.reduceLT, Nat.reduceEqDiff, Nat.reduceAdd, Nat.reduceMul, Nat.reduceSub, Nat.reduceLeDiff, Int.reduceToNat, Int.reduceNeg, Int.reduceLT, Int.reduceLE, Int.reduceEq, reduceCtorEq]
    rfl
  · rintro k fr' H' ⟨i, a, rfl, hi, f0, f7, f8, f9, g⟩
    refine wx_sound hT _ ?_
    simp only [go_sem, Nat.reduceLT, Nat.reduceEqDiff, Nat.reduceAdd, Nat.reduceMul, Nat.reduceSub, Nat.reduceLeDiff, Int.reduceToNat, Int.reduceNeg, Int.reduceLT, Int.reduceLE, Int.reduceEq, reduceCtorEq, f0, f7, f8, f9]
    refine IfB_dec (fun hlt => ?_) (fun hge => ?_)
    · have hlt' : i < l.length := by omega
      have e1 := at_enc (E := Enc.str) (T := T) (xs := l) se42 hlt' (k := .i64) (z := i) rfl
      have e2 : Enc.str.cells l[i] = [.str l[i]] := rfl
      have hsum : (textsL l).length = (textsL (l.take i)).length + (textL l[i]).length + (textsL (l.drop (i + 1))).length := by
        have : textsL l = textsL (l.take (i + 1)) ++ textsL (l.drop (i + 1)) := by rw [textsL, textsL, textsL, ← List.flatMap_append, List.take_append_drop]
        rw [this, textsL_snoc l i hlt', List.length_append, List.length_append]
      have hone : (textL l[i]).length = (small l[i].length).length + l[i].length := by simp [textL]
      simp only [go_sem, Nat.reduceLT, Nat.reduceEqDiff, Nat.reduceAdd, Nat.reduceMul, Nat.reduceSub, Nat.reduceLeDiff, Int.reduceToNat, Int.reduceNeg, Int.reduceLT, Int.reduceLE, Int.reduceEq, reduceCtorEq, f0, f7, f8, f9, e1, e2]
      refine (text_spec l[i] (by omega) _).mono ?_
      rintro r H1 ⟨o1, k1⟩
      simp only [go_sem, Nat.reduceLT, Nat.reduceEqDiff, Nat.reduceAdd, Nat.reduceMul, Nat.reduceSub, Nat.reduceLeDiff, Int.reduceToNat, Int.reduceNeg, Int.reduceLT, Int.reduceLE, Int.reduceEq, reduceCtorEq]
      refine append_gr (g.own.keep0 k1) se30 az5 td5 rfl (o1.bs.src tk30) (by rw [List.length_append]; omega) (by have := g.keep.len; have := k1.len; omega) ?_
      intro v' H2 g2
      simp only [go_sem, Nat.reduceLT, Nat.reduceEqDiff, Nat.reduceAdd, Nat.reduceMul, Nat.reduceSub, Nat.reduceLeDiff, Int.reduceToNat, Int.reduceNeg, Int.reduceLT, Int.reduceLE, Int.reduceEq, reduceCtorEq, f0, f7, f8, f9]
      refine ⟨l.length - (i + 1), by omega, i + 1, v', rfl, by omega, by simp only [go_sem, Nat.reduceLT, Nat.reduceEqDiff, Nat.reduceAdd, Nat.reduceMul, Nat.reduceSub, Nat.reduceLeDiff, Int.reduceToNat, Int.reduceNeg, Int.reduceLT, Int.reduceLE, Int.reduceEq, reduceCtorEq], by simp only [go_sem, Nat.reduceLT, Nat.reduceEqDiff, Nat.reduceAdd, Nat.reduceMul, Nat.reduceSub, Nat.reduceLeDiff, Int.reduceToNat, Int.reduceNeg, Int.reduceLT, Int.reduceLE, Int.reduceEq, reduceCtorEq, f7], by simp only [go_sem, Nat.reduceLT, Nat.reduceEqDiff, Nat.reduceAdd, Nat.reduceMul, Nat.reduceSub, Nat.reduceLeDiff, Int.reduceToNat, Int.reduceNeg, Int.reduceLT, Int.reduceLE, Int.reduceEq, reduceCtorEq, f8], ?_, (g.trans (Grow.pre k1 g2)).eq ?_⟩
      · simp only [go_sem, Nat.reduceLT, Nat.reduceEqDiff, Nat.reduceAdd, Nat.reduceMul, Nat.reduceSub, Nat.reduceLeDiff, Int.reduceToNat, Int.reduceNeg, Int.reduceLT, Int.reduceLE, Int.reduceEq, reduceCtorEq]
        rw [i64_id (i + 1 : Int) (by omega) (by omega)]; rfl
      · rw [textsL_snoc l i hlt']; simp
    · have : i = l.length := by omega
      subst this
      simp only [go_sem, Nat.reduceLT, Nat.reduceEqDiff, Nat.reduceAdd, Nat.reduceMul, Nat.reduceSub, Nat.reduceLeDiff, Int.reduceToNat, Int.reduceNeg, Int.reduceLT, Int.reduceLE, Int.reduceEq, reduceCtorEq, f0]
      rw [List.take_length] at g
      exact hK _ _ g
theorem in_spec (n k : Int) (H : Heap) : WC Try.prog 63 [.int .i64 n, .int .i64 k] H fun r H' => r = .bool (decide (0 ≤ n ∧ n ≤ k)) ∧ H' = H := by
  refine WC_of_K fun K hK => ?_
  refine WC_of_body hT Try.func63 rfl (by simp [Try.f63]) (by simp [Try.f63]) (wx_sound hT _ ?_)
  simp only [Try.f63]
  simp only [go_sem, Nat.reduceLT, Nat.reduceEqDiff, Nat.reduceAdd, Nat.reduceMul, Nat.reduceSub, Nat.reduceLeDiff, Int.reduceToNat, Int.reduceNeg, Int.reduceLT, Int.reduceLE, Int.reduceEq, reduceCtorEq]
  refine Guard_dec (fun h => ?_) (fun h => ?_)
  · simp only [go_sem, Nat.reduceLT, Nat.reduceEqDiff, Nat.reduceAdd, Nat.reduceMul, Nat.reduceSub, Nat.reduceLeDiff, Int.reduceToNat, Int.reduceNeg, Int.reduceLT, Int.reduceLE, Int.reduceEq, reduceCtorEq, h]
    refine hK _ _ ⟨?_, rfl⟩
    simp [h]
  · simp only [go_sem, Nat.reduceLT, Nat.reduceEqDiff, Nat.reduceAdd, Nat.reduceMul, Nat.reduceSub, Nat.reduceLeDiff, Int.reduceToNat, Int.reduceNeg, Int.reduceLT, Int.reduceLE, Int.reduceEq, reduceCtorEq, h]
    refine hK _ _ ⟨?_, rfl⟩
    simp; omega

theorem refNums_spec (w : AV) (l : List Int) (H : Heap) (hl : Is H w .i64 l) (hc : l.length ≤ 1000000) :
    WC Try.prog 46 [w] H fun r H' => Ob H.length H' r (numsL l) ∧ Keep none H H' := by
  refine WC_of_K fun K hK => ?_
  refine WC_of_body hT Try.func46 rfl (by simp [Try.f46]) (by simp [Try.f46]) (wx_sound hT _ ?_)
  simp only [Try.f46]
  simp only [go_sem, Nat.reduceLT, Nat.reduceEqDiff, Nat.reduceAdd, Nat.reduceMul, Nat.reduceSub, Nat.reduceLeDiff, Int.reduceToNat, Int.reduceNeg, Int.reduceLT, Int.reduceLE, Int.reduceEq, reduceCtorEq]
  refine WX_loop (fun k fr' H' => ∃ (i : Nat) (a : AV), k = l.length - i ∧ i ≤ l.length ∧ fr'.get 3 = a ∧ fr'.get 0 = w ∧ fr'.get 4 = .int .i64 i ∧ Grow H.length H .nils H' a (numsL (l.take i))) l.length ⟨0, .nils, rfl, by omega, ?_, ?_, ?_, (Grow.refl (Ob.nils _ _)).eq (by simp [numsL])⟩ ?_
  · simp only [go_sem, Nat.reduceLT, Nat.reduceEqDiff, Nat.reduceAdd, Nat.reduceMul, Nat.reduceSub, Nat.reduceLeDiff, Int.reduceToNat, Int.reduceNeg, Int.reduceLT, Int.reduceLE, Int.reduceEq, reduceCtorEq]
  · simp only [go_sem, Nat.reduceLT, Nat.reduceEqDiff, Nat.reduceAdd, Nat.reduceMul, Nat.reduceSub, Nat.reduceLeDiff, Int.reduceToNat, Int.reduceNeg, Int.reduceLT, Int.reduceLE, Int.reduceEq, reduceCtorEq]
  · simp only [go_sem, Nat.reduceLT, Nat.reduceEqDiff, Nat.reduceAdd, Nat.reduceMul, Nat.reduceSub, Nat.reduceLeDiff, Int.reduceToNat, Int.reduceNeg, Int.reduceLT, Int.reduceLE, Int.reduceEq, reduceCtorEq]
    rfl
  · rintro k fr' H' ⟨i, a, rfl, hi, f3, f0, f4, g⟩
    refine wx_sound hT _ ?_
    have hl' : Is H' w .i64 l := Vs.keep hl g.keep (fun b _ => by simp [AV.blk])
    simp only [go_sem, Nat.reduceLT, Nat.reduceEqDiff, Nat.reduceAdd, Nat.reduceMul, Nat.reduceSub, Nat.reduceLeDiff, Int.reduceToNat, Int.reduceNeg, Int.reduceLT, Int.reduceLE, Int.reduceEq, reduceCtorEq, f3, f0, f4, hl'.alen tk101]
    refine IfB_dec (fun hlt => ?_) (fun hge => ?_)
    · have hlt' : i < l.length := by omega
      obtain ⟨b, o, e1, e2, _⟩ := Vs.at1 hl' se101 hlt' (k := .i64) (z := i) rfl
      have hlen := numsL_len (l.take i)
      rw [List.length_take] at hlen
      have hs := small_len10 (u64w_lt l[i])
      simp only [go_sem, Nat.reduceLT, Nat.reduceEqDiff, Nat.reduceAdd, Nat.reduceMul, Nat.reduceSub, Nat.reduceLeDiff, Int.reduceToNat, Int.reduceNeg, Int.reduceLT, Int.reduceLE, Int.reduceEq, reduceCtorEq, f3, f0, f4, e1, e2]
      rw [← u64w_cast]
      refine (refSmall_spec (IntKind.u64.wrap l[i]).toNat (u64w_lt _) _).mono ?_
      rintro r H1 ⟨o1, k1⟩
      simp only [go_sem, Nat.reduceLT, Nat.reduceEqDiff, Nat.reduceAdd, Nat.reduceMul, Nat.reduceSub, Nat.reduceLeDiff, Int.reduceToNat, Int.reduceNeg, Int.reduceLT, Int.reduceLE, Int.reduceEq, reduceCtorEq]
      refine append_gr (g.own.keep0 k1) se30 az5 td5 rfl (o1.bs.src tk30) (by omega) (by have := g.keep.len; have := k1.len; omega) ?_
      intro v' H2 g2
      simp only [go_sem, Nat.reduceLT, Nat.reduceEqDiff, Nat.reduceAdd, Nat.reduceMul, Nat.reduceSub, Nat.reduceLeDiff, Int.reduceToNat, Int.reduceNeg, Int.reduceLT, Int.reduceLE, Int.reduceEq, reduceCtorEq, f3, f0, f4]
      refine ⟨l.length - (i + 1), by omega, i + 1, v', rfl, by omega, by simp only [go_sem, Nat.reduceLT, Nat.reduceEqDiff, Nat.reduceAdd, Nat.reduceMul, Nat.reduceSub, Nat.reduceLeDiff, Int.reduceToNat, Int.reduceNeg, Int.reduceLT, Int.reduceLE, Int.reduceEq, reduceCtorEq], by simp only [go_sem, Nat.reduceLT, Nat.reduceEqDiff, Nat.reduceAdd, Nat.reduceMul, Nat.reduceSub, Nat.reduceLeDiff, Int.reduceToNat, Int.reduceNeg, Int.reduceLT, Int.reduceLE, Int.reduceEq, reduceCtorEq, f0], ?_, (g.trans (Grow.pre k1 g2)).eq ?_⟩
      · simp only [go_sem, Nat.reduceLT, Nat.reduceEqDiff, Nat.reduceAdd, Nat.reduceMul, Nat.reduceSub, Nat.reduceLeDiff, Int.reduceToNat, Int.reduceNeg, Int.reduceLT, Int.reduceLE, Int.reduceEq, reduceCtorEq]
        rw [i64_id (i + 1 : Int) (by omega) (by omega)]; rfl
      · rw [numsL_snoc l i hlt']
    · have : i = l.length := by omega
      subst this
      simp only [go_sem, Nat.reduceLT, Nat.reduceEqDiff, Nat.reduceAdd, Nat.reduceMul, Nat.reduceSub, Nat.reduceLeDiff, Int.reduceToNat, Int.reduceNeg, Int.reduceLT, Int.reduceLE, Int.reduceEq, reduceCtorEq, f3]
      rw [List.take_length] at g
      exact hK _ _ ⟨g.own, g.keep⟩
end Go.Proofs.Ytakmlfbejbelaaa
