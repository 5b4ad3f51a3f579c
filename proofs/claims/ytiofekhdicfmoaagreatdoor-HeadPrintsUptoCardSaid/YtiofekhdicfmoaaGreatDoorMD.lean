set_option linter.all false
/-! The head parser of the program, as plain Lean functions. -/
namespace Hp
abbrev L := List UInt8

def tcharP (c : UInt8) : Bool :=
  (48 ≤ c && c ≤ 57) || ((97 ≤ c && c ≤ 122) || (65 ≤ c && c ≤ 90)) || [33,35,36,37,38,39,42,43,45,46,94,95,96,124,126].contains c
def tokenP (s : L) : Bool := s.all tcharP && !s.isEmpty
def blankP (c : UInt8) : Bool := c == 32 || c == 9
def trimL (s : L) : L := s.dropWhile blankP
def trimP (s : L) : L := (trimL (trimL s).reverse).reverse
def vcharP (c : UInt8) : Bool := !((c < 32 && c != 9) || c == 127)
def valueP (s : L) : Bool := s.all vcharP && trimP s == s
def visP (c : UInt8) : Bool := 33 ≤ c && c ≤ 126
def visibleP (s : L) : Bool := s.all visP && !s.isEmpty

/-- ahead of the first c, and behind it -/
def cutP (c : UInt8) : L → Option (L × L)
  | [] => none
  | x :: xs => if x == c then some ([], xs) else match cutP c xs with
    | none => none
    | some (a, b) => some (x :: a, b)

/-- all parts between c's -/
def splitP (c : UInt8) : L → List L
  | [] => [[]]
  | x :: xs => if x == c then [] :: splitP c xs else match splitP c xs with
    | [] => [[x]]
    | a :: r => (x :: a) :: r

def digitP (c : UInt8) : Bool := 48 ≤ c && c ≤ 57
/-- a version: its minor, and what is wrong (0: nothing) -/
def http1 : L := [72,84,84,80,47,49,46]
def versionP (s : L) : Nat × Nat :=
  if s = [72,84,84,80,47,49,46,48] then (0, 0)
  else if s = [72,84,84,80,47,49,46,49] then (1, 0)
  else match s with
    | [a, b, c, d, e, f, g, h] => if [a, b, c, d, e] = [72,84,84,80,47] ∧ digitP f = true ∧ g = 46 ∧ digitP h = true then (0, 86) else (0, 80)
    | _ => (0, 80)

structure FieldP where
  name : L
  value : L
  deriving DecidableEq, Inhabited
structure HeadP where
  request : Bool := false
  method : L := []
  target : L := []
  minor : Int := 0
  status : Int := 0
  reason : L := []
  fields : List FieldP := []
  deriving DecidableEq, Inhabited

inductive StP | request | response | field
  deriving DecidableEq

/-- what is wrong: at a byte (none), or in a line (its number) -/
structure ErrP where
  line : Option Nat
  code : Nat
  deriving DecidableEq

structure PS where
  most : Nat
  read : Nat := 0
  lines : Nat := 0
  line : L := []
  st : StP
  head : HeadP
  whole : Bool := false
  err : Option ErrP := none

def newP (request : Bool) (most : Nat) : PS := { most, st := if request then .request else .response, head := { request } }

def requestP (p : PS) (s : L) : PS × Nat :=
  if s = [] ∧ p.lines ≤ 4 then (p, 0) else
  match splitP 32 s with
  | [a, b, c] =>
    if tokenP a && visibleP b then
      ({ p with head := { p.head with method := a, target := b, minor := (versionP c).1 }, st := .field }, (versionP c).2)
    else (p, 80)
  | _ => (p, 80)

/-- three digits -/
def status3 (s : L) : Option Nat :=
  match s with
  | [a, b, c] => if digitP a && digitP b && digitP c then some ((a.toNat - 48) * 100 + (b.toNat - 48) * 10 + (c.toNat - 48)) else none
  | _ => none

def responseP (p : PS) (s : L) : PS × Nat :=
  match cutP 32 s with
  | none => (p, 80)
  | some (a, r) =>
    match cutP 32 r with
    | none => (p, 80)
    | some (b, c) =>
      if b.length ≠ 3 ∨ c.all vcharP = false then (p, 80) else
      match status3 b with
      | none => (p, 80)
      | some n =>
        if n < 100 ∨ n > 599 then (p, 80) else
        ({ p with head := { p.head with status := n, reason := c, minor := (versionP a).1 }, st := .field }, (versionP a).2)

def lastBlank (s : L) : Bool := match s.getLast? with | some z => blankP z | none => false
def fieldLine (n : Nat) (s : L) : Except Nat FieldP :=
  match s with
  | [] => .error 82
  | x :: _ =>
    if blankP x then .error 82 else
    match cutP 58 s with
    | none => .error 84
    | some (name, value) =>
      if lastBlank name then .error 83
      else if !tokenP name then .error 70
      else if !valueP (trimP value) then .error 71
      else if n = 100 then .error 85
      else .ok ⟨name, trimP value⟩

def fieldP (p : PS) (s : L) : PS × Nat :=
  if s = [] then ({ p with whole := true }, 0) else
  match fieldLine p.head.fields.length s with
  | .error e => (p, e)
  | .ok f => ({ p with head := { p.head with fields := p.head.fields ++ [f] } }, 0)

def stateP (p : PS) (s : L) : PS × Nat :=
  match p.st with
  | .request => requestP p s
  | .response => responseP p s
  | .field => fieldP p s

def afterP (l : L) : Bool := l.getLast? == some 13

def grownP (c : UInt8) (n : Nat) : Nat := if c != 10 && c != 13 then n + 1 else n
/-- a byte is read -/
def takeP (p : PS) (c : UInt8) : PS × Option ErrP :=
  if (c == 10) != afterP p.line then (p, some ⟨none, 81⟩) else
  let p1 := { p with read := p.read + 1 }
  if p1.read > p.most ∨ (afterP p.line = false ∧ grownP c p.line.length > 8192) then (p1, some ⟨none, 85⟩) else
  if c != 10 then ({ p1 with line := p.line ++ [c] }, none) else
  let s := p.line.dropLast
  let p2 := { p1 with line := [], lines := p.lines + 1 }
  ((stateP p2 s).1, if (stateP p2 s).2 = 0 then none else some ⟨some (stateP p2 s).1.lines, (stateP p2 s).2⟩)

def stepP (p : PS) (c : UInt8) : PS := { (takeP p c).1 with err := (takeP p c).2 }
def PS.stops (p : PS) : Bool := p.whole || p.err.isSome

/-- bytes are read: how many, and the parser behind them -/
def feedP (p : PS) : L → Nat × PS
  | [] => (0, p)
  | c :: r => if p.stops then (0, p) else let (n, q) := feedP (stepP p c) r; (n + 1, q)

def codeP (p : PS) : Nat := match p.err with | none => 0 | some e => e.code

def parseP (request : Bool) (b : L) : HeadP × Nat × Nat :=
  let (n, q) := feedP (newP request 65536) b
  if codeP q ≠ 0 then ({}, 0, codeP q) else if q.whole then (q.head, n, 0) else ({}, 0, 6)

end Hp

namespace Hp

theorem feed_nil (p : PS) : feedP p [] = (0, p) := rfl
theorem feed_stop {p : PS} (h : p.stops = true) (b : L) : feedP p b = (0, p) := by
  cases b with
  | nil => rfl
  | cons c r => simp [feedP, h]
theorem feed_go {p : PS} (h : p.stops = false) (c : UInt8) (r : L) :
    feedP p (c :: r) = ((feedP (stepP p c) r).1 + 1, (feedP (stepP p c) r).2) := by
  simp [feedP, h]

theorem feed_le (b : L) : ∀ p : PS, (feedP p b).1 ≤ b.length := by
  induction b with
  | nil => intro p; simp [feedP]
  | cons c r ih =>
    intro p
    cases h : p.stops with
    | true => rw [feed_stop h]; simp
    | false => rw [feed_go h]; have := ih (stepP p c); simp; omega

/-- behind bytes that do not stop the parser all are read -/
theorem feed_all (b : L) : ∀ p : PS, (feedP p b).2.stops = false → (feedP p b).1 = b.length := by
  induction b with
  | nil => intro p _; rfl
  | cons c r ih =>
    intro p h
    cases hs : p.stops with
    | true => rw [feed_stop hs] at h; rw [hs] at h; cases h
    | false => rw [feed_go hs] at h ⊢; simp [ih _ h]

theorem feed_append (a b : L) : ∀ p : PS, feedP p (a ++ b) =
    ((feedP p a).1 + (feedP (feedP p a).2 b).1, (feedP (feedP p a).2 b).2) := by
  induction a with
  | nil => intro p; simp [feedP]
  | cons c r ih =>
    intro p
    cases hs : p.stops with
    | true => rw [List.cons_append, feed_stop hs, feed_stop hs]; simp only; rw [feed_stop hs]; simp
    | false =>
      rw [List.cons_append, feed_go hs, feed_go hs, ih]
      simp only [Prod.mk.injEq, and_true]
      omega

/-- the parser as it stands at the last byte read -/
theorem feed_take (b : L) : ∀ p : PS, feedP p (b.take (feedP p b).1) = feedP p b := by
  induction b with
  | nil => intro p; simp [feedP]
  | cons c r ih =>
    intro p
    cases hs : p.stops with
    | true => rw [feed_stop hs, feed_stop hs]
    | false =>
      rw [feed_go hs, List.take_succ_cons, feed_go hs, ih]

/-- no fewer bytes stop it -/
theorem feed_less (b : L) : ∀ (p : PS) (k : Nat), k < (feedP p b).1 → (feedP p (b.take k)).2.stops = false := by
  induction b with
  | nil => intro p k h; simp [feedP] at h
  | cons c r ih =>
    intro p k h
    cases hs : p.stops with
    | true => rw [feed_stop hs] at h; simp at h
    | false =>
      rw [feed_go hs] at h
      cases k with
      | zero => simpa [feedP] using hs
      | succ k =>
        rw [List.take_succ_cons, feed_go hs]
        exact ih _ _ (by simpa using h)

theorem stops_code {p : PS} (h : p.stops = false) : codeP p = 0 ∧ p.whole = false := by
  unfold PS.stops at h
  simp at h
  unfold codeP
  simp [h.2, h.1]

theorem parse_cut {request : Bool} {b : L} {h : HeadP} {n : Nat} (hp : parseP request b = (h, n, 0)) :
    1 ≤ n ∧ n ≤ b.length ∧ (∀ k, k < n → parseP request (b.take k) = ({}, 0, 6)) ∧ ∀ more, parseP request (b.take n ++ more) = (h, n, 0) := by
  unfold parseP at hp
  simp only at hp
  split at hp
  · simp only [Prod.mk.injEq] at hp; omega
  · rename_i hc
    split at hp
    · rename_i hw
      simp only [Prod.mk.injEq, and_true] at hp
      obtain ⟨h1, h2⟩ := hp
      have hstop : (feedP (newP request 65536) b).2.stops = true := by simp [PS.stops, hw]
      have hn : (newP request 65536).stops = false := by simp [newP, PS.stops]
      refine ⟨?_, ?_, ?_, ?_⟩
      · cases b with
        | nil => rw [feed_nil, hn] at hstop; cases hstop
        | cons c r => rw [feed_go hn] at h2; omega
      · have := feed_le b (newP request 65536); omega
      · intro k hk
        have := feed_less b (newP request 65536) k (by omega)
        obtain ⟨c0, w0⟩ := stops_code this
        simp [parseP, c0, w0]
      · intro more
        have ht : feedP (newP request 65536) (b.take n) = feedP (newP request 65536) b := by
          rw [← h2]; exact feed_take b _
        have ha : feedP (newP request 65536) (b.take n ++ more) = feedP (newP request 65536) b := by
          rw [feed_append, ht, feed_stop hstop]
          rfl
        unfold parseP
        simp only [ha]
        rw [if_neg hc, if_pos hw, h1, h2]
    · simp only [Prod.mk.injEq] at hp; omega

end Hp

namespace Hp

def noEnd (s : L) : Prop := ∀ c ∈ s, c ≠ 10 ∧ c ≠ 13
def crlf : L := [13, 10]

def settle (r : PS × Nat) : PS := { r.1 with err := if r.2 = 0 then none else some ⟨some r.1.lines, r.2⟩ }

theorem after_noEnd {s : L} (h : noEnd s) : afterP s = false := by
  unfold afterP
  cases hl : s.getLast? with
  | none => rfl
  | some z =>
    have := h z (List.mem_of_getLast? hl)
    simp [this.2]

theorem step_plain {p : PS} {c : UInt8} (h10 : c ≠ 10) (h13 : c ≠ 13) (ha : afterP p.line = false)
    (hr : p.read + 1 ≤ p.most) (hl : p.line.length + 1 ≤ 8192) :
    stepP p c = { p with read := p.read + 1, line := p.line ++ [c], err := none } := by
  have e10 : (c == 10) = false := by simpa using h10
  have e13 : (c == 13) = false := by simpa using h13
  have n1 : ¬ (p.read + 1 > p.most) := by omega
  have n2 : ¬ (8192 < p.line.length + 1) := by omega
  unfold stepP takeP
  simp [e10, e13, ha, n1, n2, bne, grownP]

theorem step_cr {p : PS} (ha : afterP p.line = false) (hr : p.read + 1 ≤ p.most) (hl : p.line.length ≤ 8192) :
    stepP p 13 = { p with read := p.read + 1, line := p.line ++ [13], err := none } := by
  have n1 : ¬ (p.read + 1 > p.most) := by omega
  have n2 : ¬ (8192 < p.line.length) := by omega
  have e : ((13 : UInt8) == 10) = false := by decide
  have e' : ((13 : UInt8) == 13) = true := by decide
  unfold stepP takeP
  simp [ha, n1, n2, bne, e, grownP]

theorem step_lf {p : PS} (ha : afterP p.line = true) (hr : p.read + 1 ≤ p.most) :
    stepP p 10 = settle (stateP { p with read := p.read + 1, line := [], lines := p.lines + 1 } p.line.dropLast) := by
  have n1 : ¬ (p.read + 1 > p.most) := by omega
  unfold stepP takeP
  simp only [ha, n1, bne, beq_self_eq_true, Bool.not_true, Bool.false_eq_true, if_false, false_or, reduceCtorEq, false_and]
  rfl

theorem feed_plain (s : L) : ∀ (p : PS) (r : L), p.stops = false → noEnd s → afterP p.line = false → p.read + s.length ≤ p.most → p.line.length + s.length ≤ 8192 →
    feedP p (s ++ r) = (s.length + (feedP { p with read := p.read + s.length, line := p.line ++ s, err := none } r).1,
      (feedP { p with read := p.read + s.length, line := p.line ++ s, err := none } r).2) := by
  induction s with
  | nil =>
    intro p r hs _ _ _ _
    have : p.err = none := by unfold PS.stops at hs; simp at hs; exact hs.2
    simp [← this]
  | cons c s ih =>
    intro p r hs hn ha hr hl
    have hc := hn c (by simp)
    simp only [List.length_cons] at hr hl
    rw [List.cons_append, feed_go hs, step_plain hc.1 hc.2 ha (by omega) (by omega)]
    rw [ih _ _ (by unfold PS.stops at hs ⊢; simp at hs ⊢; exact hs.1) (fun x hx => hn x (by simp [hx])) (by
        unfold afterP; simp [hc.2]) (by simp; omega) (by simp; omega)]
    simp only [List.append_assoc, List.singleton_append, List.length_cons]
    have e1 : p.read + 1 + s.length = p.read + (s.length + 1) := by omega
    rw [e1]
    simp only [Prod.mk.injEq, and_true]
    omega

/-- a whole line is read -/
theorem feed_line (s r : L) (p : PS) (hs : p.stops = false) (hn : noEnd s) (hl0 : p.line = []) (hr : p.read + s.length + 2 ≤ p.most) (hl : s.length ≤ 8192) :
    feedP p (s ++ (13 :: 10 :: r)) =
      (s.length + 2 + (feedP (settle (stateP { p with read := p.read + s.length + 2, line := [], lines := p.lines + 1, err := none } s)) r).1,
       (feedP (settle (stateP { p with read := p.read + s.length + 2, line := [], lines := p.lines + 1, err := none } s)) r).2) := by
  rw [feed_plain s p _ hs hn (by rw [hl0]; rfl) (by omega) (by rw [hl0]; simpa using hl)]
  have hs1 : ({ p with read := p.read + s.length, line := p.line ++ s, err := none } : PS).stops = false := by
    unfold PS.stops at hs ⊢; simp at hs ⊢; exact hs.1
  rw [feed_go hs1, step_cr (by simp only [hl0, List.nil_append]; exact after_noEnd hn) (by simp; omega) (by simp [hl0]; exact hl)]
  rw [feed_go (by exact hs1), step_lf (by simp [afterP]) (by simp; omega)]
  simp only [hl0, List.nil_append, List.dropLast_concat]
  have e : p.read + s.length + 1 + 1 = p.read + s.length + 2 := by omega
  rw [e]
  simp only [Prod.mk.injEq, and_true]
  omega

end Hp

namespace Hp

def dig (n : Nat) : L := [UInt8.ofNat (48 + n)]
def verT (m : Int) : L := http1 ++ [if m = 0 then 48 else 49]
def dig3 (s : Nat) : L := [UInt8.ofNat (48 + s / 100), UInt8.ofNat (48 + s / 10 % 10), UInt8.ofNat (48 + s % 10)]
def firstT (h : HeadP) : L :=
  if h.request then h.method ++ [32] ++ h.target ++ [32] ++ verT h.minor
  else verT h.minor ++ [32] ++ dig3 h.status.toNat ++ [32] ++ h.reason
def fieldT (f : FieldP) : L := f.name ++ [58, 32] ++ f.value
def fieldsT (l : List FieldP) : L := l.flatMap fun f => fieldT f ++ crlf
def textT (h : HeadP) : L := firstT h ++ crlf ++ fieldsT h.fields ++ crlf

def GoodF (f : FieldP) : Prop := tokenP f.name = true ∧ valueP f.value = true
structure Good (h : HeadP) : Prop where
  first : if h.request then tokenP h.method = true ∧ visibleP h.target = true ∧ h.status = 0 ∧ h.reason = []
    else h.method = [] ∧ h.target = [] ∧ 100 ≤ h.status ∧ h.status ≤ 599 ∧ h.reason.all vcharP = true
  minor : h.minor = 0 ∨ h.minor = 1
  few : h.fields.length ≤ 100
  each : ∀ f ∈ h.fields, GoodF f

theorem u8_all (P : UInt8 → Prop) (h : ∀ n : Fin 256, P (UInt8.ofNat n.val)) (c : UInt8) : P c := by
  have := h ⟨c.toNat, c.toNat_lt⟩
  simpa using this
theorem tchar_vis {c : UInt8} (h : tcharP c = true) : 32 < c ∧ c ≠ 58 ∧ c ≤ 126 :=
  u8_all (fun c => tcharP c = true → 32 < c ∧ c ≠ 58 ∧ c ≤ 126) (by decide +kernel) c h
theorem vis_range {c : UInt8} (h : visP c = true) : 32 < c ∧ c ≤ 126 :=
  u8_all (fun c => visP c = true → 32 < c ∧ c ≤ 126) (by decide +kernel) c h
theorem vchar_range {c : UInt8} (h : vcharP c = true) : c ≠ 0 ∧ c ≠ 10 ∧ c ≠ 13 :=
  u8_all (fun c => vcharP c = true → c ≠ 0 ∧ c ≠ 10 ∧ c ≠ 13) (by decide +kernel) c h
theorem lt32 {c : UInt8} (h : 32 < c) : c ≠ 32 ∧ c ≠ 9 ∧ c ≠ 10 ∧ c ≠ 13 ∧ c ≠ 0 ∧ blankP c = false :=
  u8_all (fun c => 32 < c → c ≠ 32 ∧ c ≠ 9 ∧ c ≠ 10 ∧ c ≠ 13 ∧ c ≠ 0 ∧ blankP c = false) (by decide +kernel) c h

theorem token_each {s : L} (h : tokenP s = true) : s ≠ [] ∧ ∀ c ∈ s, 32 < c ∧ c ≠ 58 ∧ c ≤ 126 := by
  unfold tokenP at h
  simp only [Bool.and_eq_true, List.all_eq_true, Bool.not_eq_true', List.isEmpty_eq_false_iff] at h
  exact ⟨h.2, fun c hc => tchar_vis (h.1 c hc)⟩
theorem visible_each {s : L} (h : visibleP s = true) : s ≠ [] ∧ ∀ c ∈ s, 32 < c ∧ c ≤ 126 := by
  unfold visibleP at h
  simp only [Bool.and_eq_true, List.all_eq_true, Bool.not_eq_true', List.isEmpty_eq_false_iff] at h
  exact ⟨h.2, fun c hc => vis_range (h.1 c hc)⟩

theorem cut_at {c : UInt8} (a b : L) (h : ∀ x ∈ a, x ≠ c) : cutP c (a ++ c :: b) = some (a, b) := by
  induction a with
  | nil => simp [cutP]
  | cons x a ih =>
    have hx : (x == c) = false := by simpa using h x (by simp)
    simp [cutP, hx, ih fun y hy => h y (by simp [hy])]
theorem cut_none {c : UInt8} (a : L) (h : ∀ x ∈ a, x ≠ c) : cutP c a = none := by
  induction a with
  | nil => rfl
  | cons x a ih =>
    have hx : (x == c) = false := by simpa using h x (by simp)
    simp [cutP, hx, ih fun y hy => h y (by simp [hy])]
theorem cut_some {c : UInt8} {s a b : L} (h : cutP c s = some (a, b)) : s = a ++ c :: b ∧ ∀ x ∈ a, x ≠ c := by
  induction s generalizing a b with
  | nil => simp [cutP] at h
  | cons x s ih =>
    unfold cutP at h
    split at h
    · rename_i hx
      simp at h hx
      obtain ⟨rfl, rfl⟩ := h
      simp [hx]
    · rename_i hx
      simp at hx
      split at h
      · cases h
      · rename_i a' b' hab
        simp at h
        obtain ⟨rfl, rfl⟩ := h
        obtain ⟨h1, h2⟩ := ih hab
        refine ⟨by simp [h1], fun y hy => ?_⟩
        rcases List.mem_cons.1 hy with rfl | hy
        · exact hx
        · exact h2 y hy
theorem split_one {c : UInt8} (a : L) (h : ∀ x ∈ a, x ≠ c) : splitP c a = [a] := by
  induction a with
  | nil => rfl
  | cons x a ih =>
    have hx : (x == c) = false := by simpa using h x (by simp)
    simp [splitP, hx, ih fun y hy => h y (by simp [hy])]
theorem split_at {c : UInt8} (a b : L) (h : ∀ x ∈ a, x ≠ c) : splitP c (a ++ c :: b) = a :: splitP c b := by
  induction a with
  | nil => simp [splitP]
  | cons x a ih =>
    have hx : (x == c) = false := by simpa using h x (by simp)
    simp [splitP, hx, ih fun y hy => h y (by simp [hy])]
theorem split_ne (c : UInt8) (s : L) : splitP c s ≠ [] := by
  cases s with
  | nil => simp [splitP]
  | cons x s => unfold splitP; split; · simp
                · split <;> simp
theorem split_cut {c : UInt8} (s : L) : splitP c s = match cutP c s with | none => [s] | some (a, b) => a :: splitP c b := by
  induction s with
  | nil => rfl
  | cons x s ih =>
    cases hx : x == c with
    | true => simp [splitP, cutP, hx]
    | false =>
      simp only [splitP, cutP, hx, Bool.false_eq_true, if_false]
      rw [ih]
      cases cutP c s with
      | none => rfl
      | some p => rfl

theorem version_ver {m : Int} (h : m = 0 ∨ m = 1) : versionP (verT m) = (m.toNat, 0) := by
  rcases h with rfl | rfl <;> decide +kernel
theorem ver_len (m : Int) : (verT m).length = 8 := by simp [verT, http1]
theorem ver_noblank {m : Int} : ∀ x ∈ verT m, x ≠ 32 ∧ x ≠ 10 ∧ x ≠ 13 := by
  intro x hx
  unfold verT http1 at hx
  split at hx <;> simp at hx <;> rcases hx with rfl | rfl | rfl | rfl | rfl | rfl | rfl | rfl <;> decide

theorem dig3_status {n : Nat} (h1 : 100 ≤ n) (h2 : n ≤ 599) : status3 (dig3 n) = some n ∧ ∀ x ∈ dig3 n, x ≠ 32 ∧ x ≠ 10 ∧ x ≠ 13 := by
  have : ∀ n : Fin 600, 100 ≤ n.val → status3 (dig3 n.val) = some n.val ∧ ∀ x ∈ dig3 n.val, x ≠ 32 ∧ x ≠ 10 ∧ x ≠ 13 := by decide +kernel
  exact this ⟨n, by omega⟩ h1

theorem request_text {p : PS} {h : HeadP} (hr : h.request = true) (g : Good h) (hh : p.head = { request := true }) :
    requestP p (firstT h) = ({ p with head := { h with fields := [] }, st := .field }, 0) := by
  have hf := g.first
  rw [if_pos hr] at hf
  obtain ⟨h1, h2, h3, h4⟩ := hf
  have t1 := token_each h1
  have t2 := visible_each h2
  unfold requestP firstT
  rw [if_pos hr]
  have e : splitP 32 (h.method ++ [32] ++ h.target ++ [32] ++ verT h.minor) = [h.method, h.target, verT h.minor] := by
    simp only [List.append_assoc, List.cons_append, List.nil_append]
    rw [split_at _ _ (fun x hx => (lt32 (t1.2 x hx).1).1), split_at _ _ (fun x hx => (lt32 (t2.2 x hx).1).1), split_one _ (fun x hx => (ver_noblank x hx).1)]
  have hne : ¬ (h.method ++ [32] ++ h.target ++ [32] ++ verT h.minor = [] ∧ p.lines ≤ 4) := by simp
  rw [if_neg hne, e]
  simp only [h1, h2, Bool.and_self, if_true, version_ver g.minor, hh]
  have hm : ((h.minor.toNat : Nat) : Int) = h.minor := by rcases g.minor with e | e <;> rw [e] <;> rfl
  rw [hm]
  obtain ⟨a, b, c, d, e, f, l⟩ := h
  simp at hr h3 h4
  subst hr h3 h4
  rfl

theorem response_text {p : PS} {h : HeadP} (hr : h.request = false) (g : Good h) (hh : p.head = { request := false }) :
    responseP p (firstT h) = ({ p with head := { h with fields := [] }, st := .field }, 0) := by
  have hf := g.first
  rw [if_neg (by simp [hr])] at hf
  obtain ⟨h1, h2, h3, h4, h5⟩ := hf
  obtain ⟨n, hn⟩ : ∃ n : Nat, h.status = n := ⟨h.status.toNat, by omega⟩
  have hd := dig3_status (n := n) (by omega) (by omega)
  unfold responseP firstT
  rw [if_neg (by simp [hr])]
  simp only [List.append_assoc, List.cons_append, List.nil_append]
  rw [cut_at _ _ (fun x hx => (ver_noblank x hx).1)]
  simp only [hn, Int.toNat_natCast]
  rw [cut_at _ _ (fun x hx => (hd.2 x hx).1)]
  have hl : (dig3 n).length = 3 := rfl
  simp only [hl, ne_eq, not_true_eq_false, h5, Bool.true_eq_false, or_self, if_false, hd.1, version_ver g.minor]
  rw [if_neg (by omega), hh]
  have hm : ((h.minor.toNat : Nat) : Int) = h.minor := by rcases g.minor with e | e <;> rw [e] <;> rfl
  rw [hm]
  obtain ⟨a, b, c, d, e, f, l⟩ := h
  simp at hr h1 h2 hn
  subst hr h1 h2 hn
  rfl

theorem trim_value {v : L} (h : valueP v = true) : trimP (32 :: v) = v := by
  unfold valueP at h
  simp only [Bool.and_eq_true, beq_iff_eq] at h
  have h2 := h.2
  have : trimL (32 :: v) = trimL v := by simp [trimL, blankP]
  unfold trimP at h2 ⊢
  rw [this, h2]

theorem field_text {f : FieldP} (g : GoodF f) {n : Nat} (hn : n < 100) : fieldT f ≠ [] ∧ fieldLine n (fieldT f) = .ok f := by
  obtain ⟨h1, h2⟩ := g
  have t1 := token_each h1
  obtain ⟨nm, vl⟩ := f
  simp only at h1 h2 t1
  cases nm with
  | nil => exact absurd rfl t1.1
  | cons x r =>
    have hb : blankP x = false := (lt32 (t1.2 x (by simp)).1).2.2.2.2.2
    refine ⟨by simp [fieldT], ?_⟩
    unfold fieldLine fieldT
    simp only [List.append_assoc, List.cons_append, hb, Bool.false_eq_true, if_false]
    have e : x :: (r ++ ([] ++ 58 :: ([] ++ 32 :: vl))) = (x :: r) ++ 58 :: (32 :: vl) := by simp
    simp only [List.nil_append]
    rw [← List.cons_append, cut_at _ _ (fun y hy => (t1.2 y hy).2.1)]
    simp only [trim_value h2]
    have hlast : lastBlank (x :: r) = false := by
      unfold lastBlank
      cases hl : (x :: r).getLast? with
      | none => rfl
      | some z => exact (lt32 (t1.2 z (List.mem_of_getLast? hl)).1).2.2.2.2.2
    simp only [hlast, h1, h2, Bool.false_eq_true, if_false, Bool.not_true]
    rw [if_neg (by omega)]

theorem noEnd_first {h : HeadP} (g : Good h) : noEnd (firstT h) := by
  intro c hc
  have hf := g.first
  unfold firstT at hc
  split at hc <;> rename_i hr
  · rw [if_pos hr] at hf
    have t1 := token_each hf.1
    have t2 := visible_each hf.2.1
    simp only [List.append_assoc, List.mem_append, List.mem_singleton] at hc
    rcases hc with hc | rfl | hc | rfl | hc
    · exact ⟨(lt32 (t1.2 c hc).1).2.2.1, (lt32 (t1.2 c hc).1).2.2.2.1⟩
    · decide
    · exact ⟨(lt32 (t2.2 c hc).1).2.2.1, (lt32 (t2.2 c hc).1).2.2.2.1⟩
    · decide
    · exact (ver_noblank c hc).2
  · rw [if_neg hr] at hf
    have hd := dig3_status (n := h.status.toNat) (by omega) (by omega)
    have hv : ∀ c ∈ h.reason, vcharP c = true := by simpa using hf.2.2.2.2
    simp only [List.append_assoc, List.mem_append, List.mem_singleton] at hc
    rcases hc with hc | rfl | hc | rfl | hc
    · exact (ver_noblank c hc).2
    · decide
    · exact (hd.2 c hc).2
    · decide
    · exact (vchar_range (hv c hc)).2
theorem value_each {v : L} (h : valueP v = true) : ∀ c ∈ v, vcharP c = true := by
  unfold valueP at h
  simp only [Bool.and_eq_true, List.all_eq_true] at h
  exact h.1
theorem noEnd_field {f : FieldP} (g : GoodF f) : noEnd (fieldT f) := by
  intro c hc
  have t1 := token_each g.1
  unfold fieldT at hc
  simp only [List.append_assoc, List.mem_append, List.mem_cons, List.not_mem_nil, or_false] at hc
  rcases hc with hc | (rfl | rfl) | hc
  · exact ⟨(lt32 (t1.2 c hc).1).2.2.1, (lt32 (t1.2 c hc).1).2.2.2.1⟩
  · decide
  · decide
  · exact (vchar_range (value_each g.2 c hc)).2

/-- field lines and the empty one behind a first line -/
theorem feed_fields (l : List FieldP) : ∀ (p : PS), p.stops = false → p.line = [] → p.st = .field → p.head.fields.length + l.length ≤ 100 → (∀ f ∈ l, GoodF f) →
    (∀ f ∈ l, (fieldT f).length ≤ 8192) → p.read + (fieldsT l ++ crlf).length ≤ p.most →
    (feedP p (fieldsT l ++ crlf)).1 = (fieldsT l ++ crlf).length ∧ (feedP p (fieldsT l ++ crlf)).2.whole = true ∧ (feedP p (fieldsT l ++ crlf)).2.err = none ∧
      (feedP p (fieldsT l ++ crlf)).2.head = { p.head with fields := p.head.fields ++ l } := by
  induction l with
  | nil =>
    intro p hs hl hst hk _ _ hr
    have := feed_line [] [] p hs (by intro c hc; cases hc) hl (by simpa [fieldsT, crlf] using hr) (by simp)
    simp only [List.nil_append, List.length_nil, Nat.zero_add] at this
    simp only [fieldsT, List.flatMap_nil, List.nil_append, crlf]
    rw [this]
    simp only [feed_nil, stateP, hst, fieldP, if_true, settle]
    simp
  | cons f l ih =>
    intro p hs hl hst hk hg hlen hr
    have gf := hg f (by simp)
    have ef : fieldsT (f :: l) ++ crlf = fieldT f ++ 13 :: 10 :: (fieldsT l ++ crlf) := by simp [fieldsT, crlf]
    have elen : (fieldsT (f :: l) ++ crlf).length = (fieldT f).length + 2 + (fieldsT l ++ crlf).length := by rw [ef]; simp; omega
    rw [elen] at hr
    simp only [List.length_cons] at hk
    have := feed_line (fieldT f) (fieldsT l ++ crlf) p hs (noEnd_field gf) hl (by omega) (hlen f (by simp))
    rw [elen, ef, this]
    obtain ⟨hne, hfl⟩ := field_text gf (n := p.head.fields.length) (by omega)
    have hst' : stateP { p with read := p.read + (fieldT f).length + 2, line := [], lines := p.lines + 1, err := none } (fieldT f)
        = ({ p with read := p.read + (fieldT f).length + 2, line := [], lines := p.lines + 1, err := none, head := { p.head with fields := p.head.fields ++ [f] } }, 0) := by
      simp only [stateP, hst, fieldP, if_neg hne, hfl]
    rw [hst']
    simp only [settle, if_true]
    have hw : p.whole = false := by unfold PS.stops at hs; simp at hs; exact hs.1
    have := ih { p with read := p.read + (fieldT f).length + 2, line := [], lines := p.lines + 1, err := none, head := { p.head with fields := p.head.fields ++ [f] } }
      (by simp [PS.stops, hw]) rfl hst (by simp; omega) (fun g hg' => hg g (by simp [hg'])) (fun g hg' => hlen g (by simp [hg'])) (by simp; simp at hr; omega)
    obtain ⟨a, b, c, d⟩ := this
    refine ⟨?_, b, c, ?_⟩
    · rw [a]
    · rw [d]; simp

theorem parse_text {h : HeadP} (g : Good h) (h1 : (textT h).length ≤ 65536) (h2 : (firstT h).length ≤ 8192) (h3 : ∀ f ∈ h.fields, (fieldT f).length ≤ 8192) :
    parseP h.request (textT h) = (h, (textT h).length, 0) := by
  have hs : (newP h.request 65536).stops = false := by simp [newP, PS.stops]
  have et : textT h = firstT h ++ 13 :: 10 :: (fieldsT h.fields ++ crlf) := by simp [textT, crlf]
  have elen : (textT h).length = (firstT h).length + 2 + (fieldsT h.fields ++ crlf).length := by rw [et]; simp; omega
  have hl := feed_line (firstT h) (fieldsT h.fields ++ crlf) (newP h.request 65536) hs (noEnd_first g) rfl (by simp [newP]; omega) h2
  rw [← et] at hl
  have hst : stateP { newP h.request 65536 with read := (newP h.request 65536).read + (firstT h).length + 2, line := [], lines := (newP h.request 65536).lines + 1, err := none } (firstT h)
      = ({ newP h.request 65536 with read := (firstT h).length + 2, line := [], lines := 1, err := none, head := { h with fields := [] }, st := .field }, 0) := by
    cases hr : h.request with
    | true => simp only [newP, stateP, if_true, Nat.zero_add]; rw [request_text hr g rfl]; simp [hr]
    | false => simp only [newP, stateP, Nat.zero_add, Bool.false_eq_true, if_false]; rw [response_text hr g rfl]; simp [hr]
  rw [hst] at hl
  simp only [settle, if_true] at hl
  have := feed_fields h.fields { newP h.request 65536 with read := (firstT h).length + 2, line := [], lines := 1, err := none, head := { h with fields := [] }, st := .field }
    (by simp [newP, PS.stops]) rfl rfl (by simpa using g.few) g.each h3 (by simp only [newP]; omega)
  obtain ⟨a, b, c, d⟩ := this
  unfold parseP
  simp only [hl]
  rw [a]
  have hc : codeP (feedP { newP h.request 65536 with read := (firstT h).length + 2, line := [], lines := 1, err := none, head := { h with fields := [] }, st := .field } (fieldsT h.fields ++ crlf)).2 = 0 := by
    unfold codeP; rw [c]
  rw [if_neg (by rw [hc]; simp), if_pos b, d, elen]
  simp

end Hp

namespace Hp

theorem split_three {c : UInt8} {s a b d : L} (h : splitP c s = [a, b, d]) : s = a ++ c :: (b ++ c :: d) := by
  rw [split_cut] at h
  cases h1 : cutP c s with
  | none => rw [h1] at h; simp at h
  | some p =>
    obtain ⟨x, y⟩ := p
    rw [h1] at h
    simp only [List.cons.injEq] at h
    obtain ⟨rfl, h⟩ := h
    rw [split_cut] at h
    cases h2 : cutP c y with
    | none => rw [h2] at h; simp at h
    | some p =>
      obtain ⟨x', y'⟩ := p
      rw [h2] at h
      simp only [List.cons.injEq] at h
      obtain ⟨rfl, h⟩ := h
      rw [split_cut] at h
      cases h3 : cutP c y' with
      | none =>
        rw [h3] at h
        simp at h
        subst h
        rw [(cut_some h1).1, (cut_some h2).1]
      | some p =>
        obtain ⟨u, v⟩ := p
        rw [h3] at h
        simp only [List.cons.injEq] at h
        exact absurd h.2 (split_ne _ _)

theorem version_ok {s : L} (h : (versionP s).2 = 0) : ((versionP s).1 = 0 ∨ (versionP s).1 = 1) ∧ s = verT (versionP s).1 := by
  unfold versionP at h ⊢
  split
  · rename_i e; subst e; exact ⟨.inl rfl, rfl⟩
  · rename_i e1
    rw [if_neg e1] at h
    split
    · rename_i e; subst e; exact ⟨.inr rfl, rfl⟩
    · rename_i e2
      rw [if_neg e2] at h
      split at h
      · split at h <;> simp at h
      · simp at h

theorem digit_range {c : UInt8} (h : digitP c = true) : 48 ≤ c.toNat ∧ c.toNat ≤ 57 :=
  u8_all (fun c => digitP c = true → 48 ≤ c.toNat ∧ c.toNat ≤ 57) (by decide +kernel) c h

theorem status3_some {s : L} {n : Nat} (h : status3 s = some n) : s = dig3 n ∧ n ≤ 999 := by
  unfold status3 at h
  split at h
  · rename_i a b c
    split at h
    · rename_i hd
      simp only [Bool.and_eq_true] at hd
      simp at h
      have ha := digit_range hd.1.1
      have hb := digit_range hd.1.2
      have hc := digit_range hd.2
      have e1 : n / 100 = a.toNat - 48 := by omega
      have e2 : n / 10 % 10 = b.toNat - 48 := by omega
      have e3 : n % 10 = c.toNat - 48 := by omega
      refine ⟨?_, by omega⟩
      unfold dig3
      rw [e1, e2, e3]
      have k : ∀ x : UInt8, 48 ≤ x.toNat → UInt8.ofNat (48 + (x.toNat - 48)) = x := by
        intro x hx
        rw [show 48 + (x.toNat - 48) = x.toNat by omega]
        simp
      rw [k a ha.1, k b hb.1, k c hc.1]
    · cases h
  · cases h

theorem trimL_le (s : L) : (trimL s).length ≤ s.length := (List.dropWhile_sublist _).length_le
theorem trim_le (s : L) : (trimP s).length ≤ s.length := by
  unfold trimP
  have h1 := trimL_le s
  have h2 := trimL_le (trimL s).reverse
  simp only [List.length_reverse] at h2 ⊢
  omega

theorem noEnd_nil : noEnd [] := fun _ h => by cases h
def LineOk (l : L) : Prop := ∃ s, noEnd s ∧ s.length ≤ 8192 ∧ (l = s ∨ l = s ++ [13])

structure Inv (r : Bool) (p : PS) : Prop where
  req : p.head.request = r
  line : LineOk p.line
  used : p.line.length ≤ p.read
  start : p.st ≠ .field → p.head = { request := r } ∧ p.st = (if r then .request else .response)
  begun : p.st = .field → Good p.head ∧ (firstT p.head).length ≤ 8192
  size : p.st = .field → (firstT p.head ++ crlf ++ fieldsT p.head.fields).length + p.line.length ≤ p.read + p.head.fields.length
  done : p.whole = true → p.st = .field ∧ (textT p.head).length ≤ p.read + p.head.fields.length

theorem inv_new (r : Bool) (m : Nat) : Inv r (newP r m) := by
  refine ⟨rfl, ⟨[], noEnd_nil, by simp, .inl rfl⟩, by simp [newP], ?_, ?_, ?_, ?_⟩
  · intro _; simp [newP]
  all_goals (intro h; revert h; cases r <;> simp [newP])

theorem fieldLine_ok {n : Nat} {s : L} {f : FieldP} (hn : n ≤ 100) (h : fieldLine n s = .ok f) : GoodF f ∧ n < 100 ∧ (fieldT f).length ≤ s.length + 1 := by
  cases s with
  | nil => simp [fieldLine] at h
  | cons x r =>
    simp only [fieldLine] at h
    cases hb : blankP x with
    | true => rw [hb] at h; simp at h
    | false =>
      rw [hb] at h
      simp only [Bool.false_eq_true, if_false] at h
      cases hc : cutP 58 (x :: r) with
      | none => rw [hc] at h; simp at h
      | some nv =>
        obtain ⟨name, value⟩ := nv
        rw [hc] at h
        simp only at h
        generalize lastBlank name = q at h
        cases q with
        | true => simp at h
        | false =>
          simp only [Bool.false_eq_true, if_false] at h
          cases htk : tokenP name with
          | false => rw [htk] at h; simp at h
          | true =>
            cases hv : valueP (trimP value) with
            | false => rw [htk, hv] at h; simp at h
            | true =>
              rw [htk, hv] at h
              simp only [Bool.not_true, Bool.false_eq_true, if_false] at h
              by_cases hn100 : n = 100
              · rw [if_pos hn100] at h; cases h
              · rw [if_neg hn100] at h
                simp at h
                subst h
                refine ⟨⟨htk, hv⟩, by omega, ?_⟩
                rw [(cut_some hc).1]
                have := trim_le value
                simp [fieldT]
                omega

theorem fieldLine_err {n : Nat} {s : L} {e : Nat} (h : fieldLine n s = .error e) : e ≠ 0 := by
  cases s with
  | nil => simp [fieldLine] at h; rw [← h]; decide
  | cons x r =>
    simp only [fieldLine] at h
    cases hb : blankP x with
    | true => rw [hb] at h; simp at h; rw [← h]; decide
    | false =>
      rw [hb] at h
      simp only [Bool.false_eq_true, if_false] at h
      cases hc : cutP 58 (x :: r) with
      | none => rw [hc] at h; simp at h; rw [← h]; decide
      | some nv =>
        obtain ⟨name, value⟩ := nv
        rw [hc] at h
        simp only at h
        generalize lastBlank name = q at h
        cases q with
        | true => simp at h; rw [← h]; decide
        | false =>
          simp only [Bool.false_eq_true, if_false] at h
          cases htk : tokenP name with
          | false => rw [htk] at h; simp at h; rw [← h]; decide
          | true =>
            cases hv : valueP (trimP value) with
            | false => rw [htk, hv] at h; simp at h; rw [← h]; decide
            | true =>
              rw [htk, hv] at h
              simp only [Bool.not_true, Bool.false_eq_true, if_false] at h
              by_cases hn100 : n = 100
              · rw [if_pos hn100] at h; simp at h; rw [← h]; decide
              · rw [if_neg hn100] at h; cases h

/-- a line at its end: what the states do with it -/
theorem inv_state {r : Bool} {p : PS} (hp : Inv r p) (hw : p.whole = false) {s : L} (hs : s.length ≤ 8192) (hl : p.line = [])
    (hsz : p.st = .field → (firstT p.head ++ crlf ++ fieldsT p.head.fields).length + s.length + 2 ≤ p.read + p.head.fields.length)
    (hrd : s.length + 2 ≤ p.read)
    (he : (stateP p s).2 = 0) : Inv r (stateP p s).1 := by
  unfold stateP at he ⊢
  cases hst : p.st with
  | request =>
    obtain ⟨hh, hr⟩ := hp.start (by rw [hst]; simp)
    rw [hst] at hr
    cases r with
    | false => simp at hr
    | true =>
    rw [hst] at he
    simp only [requestP] at he ⊢
    split at he
    · rename_i h0; rw [if_pos h0]; exact hp
    · rename_i h0
      rw [if_neg h0]
      split at he
      · rename_i a b c hsp
        split at he
        · rename_i hab
          rw [if_pos hab]
          simp only [Bool.and_eq_true] at hab
          simp only at he
          obtain ⟨hm, hv⟩ := version_ok he
          have hf : firstT { p.head with method := a, target := b, minor := ((versionP c).1 : Int) } = s := by
            unfold firstT
            rw [if_pos hp.req, split_three hsp]
            simp only [List.append_assoc, List.cons_append, List.nil_append]
            rw [← hv]
          refine ⟨hp.req, ⟨[], noEnd_nil, by simp, .inl hl⟩, hp.used, by simp, ?_, ?_, ?_⟩
          · intro _
            refine ⟨⟨?_, ?_, ?_, ?_⟩, by rw [hf]; exact hs⟩
            · simp [hh, hab.1, hab.2]
            · simp only; omega
            · simp [hh]
            · simp [hh]
          · intro _
            simp only
            rw [List.length_append, List.length_append, hf, hl, hh]
            simp [crlf, fieldsT]
            omega
          · intro h; simp only [hw] at h; cases h
        · rename_i h1; simp at he
      · simp at he
  | response =>
    obtain ⟨hh, hr⟩ := hp.start (by rw [hst]; simp)
    rw [hst] at hr
    cases r with
    | true => simp at hr
    | false =>
    rw [hst] at he
    simp only [responseP] at he ⊢
    cases h1 : cutP 32 s with
    | none => rw [h1] at he; simp at he
    | some ab =>
      obtain ⟨a, rr⟩ := ab
      rw [h1] at he
      simp only at he ⊢
      cases h2 : cutP 32 rr with
      | none => rw [h2] at he; simp at he
      | some bc =>
        obtain ⟨b, c⟩ := bc
        rw [h2] at he
        simp only at he ⊢
        split at he
        · simp at he
        · rename_i h3
          rw [if_neg h3]
          cases h4 : status3 b with
          | none => rw [h4] at he; simp at he
          | some n =>
            rw [h4] at he
            simp only at he ⊢
            split at he
            · simp at he
            · rename_i h5
              rw [if_neg h5]
              simp only at he
              obtain ⟨hm, hv⟩ := version_ok he
              obtain ⟨hb, _⟩ := status3_some h4
              have hf : firstT { p.head with status := (n : Int), reason := c, minor := ((versionP a).1 : Int) } = s := by
                unfold firstT
                simp only [hp.req, Bool.false_eq_true, if_false, Int.toNat_natCast]
                rw [← hv, ← hb, (cut_some h1).1, (cut_some h2).1]
                simp
              refine ⟨hp.req, ⟨[], noEnd_nil, by simp, .inl hl⟩, hp.used, by simp, ?_, ?_, ?_⟩
              · intro _
                refine ⟨⟨?_, ?_, ?_, ?_⟩, by rw [hf]; exact hs⟩
                · simp only [not_or, Bool.not_eq_false] at h3
                  simp only [hh, Bool.false_eq_true, if_false]
                  exact ⟨trivial, trivial, by omega, by omega, h3.2⟩
                · simp only; omega
                · simp [hh]
                · simp [hh]
              · intro _
                simp only
                rw [List.length_append, List.length_append, hf, hl, hh]
                simp [crlf, fieldsT]
                omega
              · intro h; simp only [hw] at h; cases h
  | field =>
    obtain ⟨hg, hfl⟩ := hp.begun hst
    have hsz' := hsz hst
    rw [hst] at he
    simp only [fieldP] at he ⊢
    split at he
    · rename_i h0
      rw [if_pos h0]
      subst h0
      refine ⟨hp.req, hp.line, hp.used, hp.start, hp.begun, hp.size, ?_⟩
      intro _
      refine ⟨hst, ?_⟩
      simp [textT, crlf] at hsz' ⊢
      omega
    · rename_i h0
      rw [if_neg h0]
      cases h1 : fieldLine p.head.fields.length s with
      | error e =>
        rw [h1] at he
        simp only at he
        exfalso
        exact fieldLine_err h1 he
      | ok f =>
        simp only
        obtain ⟨gf, hn, hlen⟩ := fieldLine_ok hg.few h1
        have hft : firstT { p.head with fields := p.head.fields ++ [f] } = firstT p.head := rfl
        refine ⟨hp.req, hp.line, hp.used, fun h => absurd hst h, ?_, ?_, ?_⟩
        · intro _
          refine ⟨⟨hg.first, hg.minor, ?_, ?_⟩, hfl⟩
          · simp; omega
          · intro g hgm
            simp only [List.mem_append, List.mem_singleton] at hgm
            rcases hgm with h | rfl
            · exact hg.each g h
            · exact gf
        · intro _
          simp only [hft]
          simp [hl, fieldsT, crlf] at hsz' ⊢
          omega
        · intro h; simp only [hw] at h; cases h

theorem inv_step {r : Bool} {p : PS} {c : UInt8} (hp : Inv r p) (hs : p.stops = false) (he : (stepP p c).err = none) :
    Inv r (stepP p c) ∧ (stepP p c).read = p.read + 1 := by
  have hw : p.whole = false := by unfold PS.stops at hs; simp at hs; exact hs.1
  obtain ⟨s, hn, hlen, hline⟩ := hp.line
  unfold stepP takeP at he ⊢
  split at he
  · simp at he
  · rename_i h1
    rw [if_neg h1]
    simp only at he ⊢
    split at he
    · simp at he
    · rename_i h2
      rw [if_neg h2]
      split at he
      · rename_i h3
        rw [if_pos h3]
        simp only [bne_iff_ne, ne_eq] at h3
        have e10 : (c == 10) = false := by simpa using h3
        have ha : afterP p.line = false := by
          rw [e10] at h1
          cases h : afterP p.line with
          | false => rfl
          | true => rw [h] at h1; simp at h1
        have hline' : p.line = s := by
          rcases hline with h | h
          · exact h
          · rw [h] at ha; simp [afterP] at ha
        refine ⟨⟨hp.req, ?_, ?_, hp.start, hp.begun, ?_, ?_⟩, rfl⟩
        · by_cases h13 : c = 13
          · exact ⟨s, hn, hlen, .inr (by rw [hline', h13])⟩
          · refine ⟨s ++ [c], ?_, ?_, .inl (by rw [hline'])⟩
            · intro x hx
              simp only [List.mem_append, List.mem_singleton] at hx
              rcases hx with hx | rfl
              · exact hn x hx
              · exact ⟨h3, h13⟩
            · have e13 : (c == 13) = false := by simpa using h13
              have hg : grownP c s.length = s.length + 1 := by simp [grownP, e10, e13, bne]
              rw [hline', hg] at h2
              rw [hline'] at ha
              simp [ha] at h2
              simp
              omega
        · have := hp.used; simp; omega
        · intro h
          have := hp.size h
          simp at this ⊢
          omega
        · intro h; simp only [hw] at h; cases h
      · rename_i h3
        rw [if_neg h3]
        simp only [bne_iff_ne, ne_eq, Decidable.not_not] at h3
        subst h3
        have ha : afterP p.line = true := by
          cases h : afterP p.line with
          | true => rfl
          | false => rw [h] at h1; simp at h1
        have hline' : p.line = s ++ [13] := by
          rcases hline with h | h
          · rw [h, after_noEnd hn] at ha; cases ha
          · exact h
        have hu := hp.used
        rw [hline'] at hu he ⊢
        simp only [List.dropLast_concat] at he ⊢
        simp at hu
        have hp2 : Inv r { p with read := p.read + 1, line := [], lines := p.lines + 1 } := by
          refine ⟨hp.req, ⟨[], noEnd_nil, by simp, .inl rfl⟩, by simp, hp.start, hp.begun, ?_, ?_⟩
          · intro h
            have := hp.size h
            rw [hline'] at this
            simp at this ⊢
            omega
          · intro h; simp only [hw] at h; cases h
        have key := inv_state hp2 hw hlen rfl (by
          intro h
          have := hp.size h
          rw [hline'] at this
          simp at this ⊢
          omega) (by simp; omega)
        have hread : ∀ q : PS, (stateP q s).1.read = q.read := by
          intro q
          unfold stateP requestP responseP fieldP
          cases q.st
          · simp only; split
            · rfl
            · split
              · split <;> rfl
              · rfl
          · simp only; split
            · rfl
            · split
              · rfl
              · split
                · rfl
                · split
                  · rfl
                  · split <;> rfl
          · simp only; split
            · rfl
            · split <;> rfl
        have hrd := hread { p with read := p.read + 1, line := [], lines := p.lines + 1 }
        generalize hq : stateP { p with read := p.read + 1, line := [], lines := p.lines + 1 } s = q at he key hrd ⊢
        by_cases hz : q.2 = 0
        · have k := key hz
          rw [if_pos hz]
          exact ⟨⟨k.req, k.line, k.used, k.start, k.begun, k.size, k.done⟩, hrd⟩
        · rw [if_neg hz] at he; cases he

theorem inv_feed {r : Bool} (b : L) : ∀ p : PS, Inv r p → p.err = none → (feedP p b).2.err = none →
    Inv r (feedP p b).2 ∧ (feedP p b).2.read = p.read + (feedP p b).1 := by
  induction b with
  | nil => intro p hp _ _; exact ⟨hp, rfl⟩
  | cons c b ih =>
    intro p hp hpe he
    cases hs : p.stops with
    | true => rw [feed_stop hs]; exact ⟨hp, rfl⟩
    | false =>
      rw [feed_go hs] at he ⊢
      simp only at he ⊢
      have h1 : (stepP p c).err = none := by
        cases h : (stepP p c).err with
        | none => rfl
        | some e =>
          have : (stepP p c).stops = true := by simp [PS.stops, h]
          rw [feed_stop this] at he
          rw [h] at he
          cases he
      obtain ⟨i1, i2⟩ := inv_step hp hs h1
      obtain ⟨j1, j2⟩ := ih _ i1 h1 he
      exact ⟨j1, by rw [j2, i2]; omega⟩

theorem step_err {p : PS} {c : UInt8} {e : ErrP} (h : (stepP p c).err = some e) : e.code ≠ 0 := by
  unfold stepP takeP at h
  split at h
  · simp at h; rw [← h]; simp
  · simp only at h
    split at h
    · simp at h; rw [← h]; simp
    · split at h
      · simp at h
      · generalize stateP _ _ = q at h
        obtain ⟨q1, q2⟩ := q
        cases q2 with
        | zero => simp at h
        | succ k => simp at h; rw [← h]; simp
theorem feed_err (b : L) : ∀ p : PS, (∀ e, p.err = some e → e.code ≠ 0) → ∀ e, (feedP p b).2.err = some e → e.code ≠ 0 := by
  induction b with
  | nil => intro p hp e h; exact hp e h
  | cons c b ih =>
    intro p hp e h
    cases hs : p.stops with
    | true => rw [feed_stop hs] at h; exact hp e h
    | false => rw [feed_go hs] at h; exact ih _ (fun e h => step_err h) e h

theorem parse_good {r : Bool} {b : L} {h : HeadP} {n : Nat} (hp : parseP r b = (h, n, 0)) :
    Good h ∧ h.request = r ∧ (firstT h).length ≤ 8192 ∧ (textT h).length ≤ n + h.fields.length := by
  unfold parseP at hp
  simp only at hp
  split at hp
  · simp only [Prod.mk.injEq] at hp; omega
  · rename_i hc
    split at hp
    · rename_i hw
      simp only [Prod.mk.injEq, and_true] at hp
      obtain ⟨h1, h2⟩ := hp
      have he : (feedP (newP r 65536) b).2.err = none := by
        cases h : (feedP (newP r 65536) b).2.err with
        | none => rfl
        | some e =>
          exfalso
          have hcode : codeP (feedP (newP r 65536) b).2 = e.code := by unfold codeP; rw [h]
          have hst : (feedP (newP r 65536) b).2.stops = true := by simp [PS.stops, h]
          rw [hcode] at hc
          simp at hc
          -- an error's number is not 0
          exact feed_err b _ (fun _ h => by cases h) e h hc
      obtain ⟨i, j⟩ := inv_feed b _ (inv_new r 65536) rfl he
      obtain ⟨d1, d2⟩ := i.done hw
      obtain ⟨g1, g2⟩ := i.begun d1
      rw [h1] at d2 g1 g2
      refine ⟨g1, by rw [← h1]; exact i.req, g2, ?_⟩
      have : (newP r 65536).read = 0 := rfl
      omega
    · simp only [Prod.mk.injEq] at hp; omega

end Hp

namespace Hp

/-- a head's text, or why there is none -/
def printP (text : HeadP → L) (h : HeadP) : L × Nat :=
  if h.fields.length > 100 then ([], 4) else
  if parseP h.request (text h) = (h, (text h).length, 0) then (text h, 0) else ([], 4)

theorem value_nul {v : L} (h : valueP v = true) : ∀ c ∈ v, c ≠ 13 ∧ c ≠ 10 ∧ c ≠ 0 := fun c hc =>
  ⟨(vchar_range (value_each h c hc)).2.2, (vchar_range (value_each h c hc)).2.1, (vchar_range (value_each h c hc)).1⟩
theorem good_clean {h : HeadP} (g : Good h) : (∀ c ∈ h.method ++ h.target ++ h.reason, c ≠ 13 ∧ c ≠ 10 ∧ c ≠ 0) ∧
    (∀ f ∈ h.fields, (∀ c ∈ f.name, 32 < c ∧ c ≠ 58) ∧ ∀ c ∈ f.name ++ f.value, c ≠ 13 ∧ c ≠ 10 ∧ c ≠ 0) := by
  constructor
  · intro c hc
    have hf := g.first
    simp only [List.mem_append] at hc
    split at hf
    · rcases hc with (hc | hc) | hc
      · have := lt32 ((token_each hf.1).2 c hc).1; exact ⟨this.2.2.2.1, this.2.2.1, this.2.2.2.2.1⟩
      · have := lt32 ((visible_each hf.2.1).2 c hc).1; exact ⟨this.2.2.2.1, this.2.2.1, this.2.2.2.2.1⟩
      · rw [hf.2.2.2] at hc; cases hc
    · rcases hc with (hc | hc) | hc
      · rw [hf.1] at hc; cases hc
      · rw [hf.2.1] at hc; cases hc
      · have hv : ∀ c ∈ h.reason, vcharP c = true := by simpa using hf.2.2.2.2
        have := vchar_range (hv c hc); exact ⟨this.2.2, this.2.1, this.1⟩
  · intro f hf
    have gf := g.each f hf
    have t := token_each gf.1
    refine ⟨fun c hc => ⟨(t.2 c hc).1, (t.2 c hc).2.1⟩, fun c hc => ?_⟩
    simp only [List.mem_append] at hc
    rcases hc with hc | hc
    · have := lt32 (t.2 c hc).1; exact ⟨this.2.2.2.1, this.2.2.1, this.2.2.2.2.1⟩
    · exact value_nul gf.2 c hc

/-- what is read is printed and read again, but where it is too long -/
theorem strict {r : Bool} {b : L} {h : HeadP} {n : Nat} {text : HeadP → L} (ht : ∀ h, Good h → text h = textT h) (hp : parseP r b = (h, n, 0)) :
    (¬ (n + h.fields.length > 65536) → (∀ f ∈ h.fields, ¬ (f.name.length + f.value.length > 8190)) →
      printP text h = (text h, 0) ∧ parseP r (text h) = (h, (text h).length, 0)) ∧
    ((printP text h).2 = 0 → parseP r (printP text h).1 = (h, (printP text h).1.length, 0)) := by
  obtain ⟨g, hr, h1, h2⟩ := parse_good hp
  have key : ¬ (n + h.fields.length > 65536) → (∀ f ∈ h.fields, ¬ (f.name.length + f.value.length > 8190)) → parseP h.request (textT h) = (h, (textT h).length, 0) := by
    intro a1 a2
    refine parse_text g (by omega) h1 fun f hf => ?_
    have := a2 f hf
    simp [fieldT]
    omega
  constructor
  · intro a1 a2
    have := key a1 a2
    have g100 := g.few
    unfold printP
    rw [ht h g, if_neg (by omega), if_pos this]
    exact ⟨rfl, hr ▸ this⟩
  · unfold printP
    have g100 := g.few
    rw [if_neg (by omega)]
    split
    · rename_i e; intro _; rw [hr] at e; exact e
    · intro e; simp at e

end Hp

/-! The reference's head reader, as plain Lean functions; it reads what the program's reads. -/
namespace Hp

def cut2R (c : UInt8) (s : L) : L × L × Bool := match cutP c s with | some (a, b) => (a, b, true) | none => (s, [], false)

def versionR (s : L) : Nat × Nat := versionP s

def firstR (request : Bool) (s : L) : HeadP × Nat :=
  let x := cut2R 32 s
  let y := cut2R 32 x.2.1
  if x.2.2 = false ∨ y.2.2 = false then ({}, 80) else
  if request then
    if !y.1.all visP then ({}, 80) else
    if !tokenP x.1 || y.1.isEmpty then ({}, 80) else
    ({ request := true, method := x.1, target := y.1, minor := (versionP y.2.1).1 }, (versionP y.2.1).2)
  else
    match status3 y.1 with
    | none => ({}, 80)
    | some n =>
      if n < 100 ∨ n > 599 ∨ (versionP x.1).2 = 80 then ({}, 80) else
      if y.2.1.all vcharP = false then ({}, 80) else
      ({ minor := (versionP x.1).1, status := n, reason := y.2.1 }, (versionP x.1).2)

def fieldR (s : L) : FieldP × Nat :=
  match s with
  | [] => (⟨[], []⟩, 82)
  | x :: _ =>
    if blankP x then (⟨[], []⟩, 82) else
    match cutP 58 s with
    | none => (⟨[], []⟩, 84)
    | some (name, value) =>
      if lastBlank name then (⟨[], []⟩, 83)
      else if !tokenP name then (⟨[], []⟩, 70)
      else if !valueP (trimP value) then (⟨[], []⟩, 71)
      else (⟨name, trimP value⟩, 0)

def begunR (h : HeadP) : Bool := h.method ≠ [] || h.status ≠ 0

def lineR (h : HeadP) (lines : Nat) (s : L) : HeadP × Bool × Nat :=
  if begunR h = false then
    if h.request = true ∧ s = [] ∧ lines ≤ 4 then (h, false, 0) else ((firstR h.request s).1, false, (firstR h.request s).2)
  else if s = [] then (h, true, 0) else
  ({ h with fields := h.fields ++ [(fieldR s).1] }, false, if (fieldR s).2 = 0 ∧ h.fields.length ≥ 100 then 85 else (fieldR s).2)

structure ResR where
  head : HeadP
  n : Nat
  whole : Bool
  e : Nat

def readR (most : Nat) : HeadP → Nat → Nat → L → L → ResR
  | _, _, i, _, [] => ⟨{}, i, false, 0⟩
  | h, lines, i, cur, c :: r =>
    if (c == 10) != afterP cur then ⟨{}, i + 1, false, 81⟩ else
    if i + 1 > most ∨ (c ≠ 10 ∧ c ≠ 13 ∧ cur.length + 1 > 8192) then ⟨{}, i + 1, false, 85⟩ else
    if c ≠ 10 then readR most h lines (i + 1) (cur ++ [c]) r else
    if (lineR h (lines + 1) cur.dropLast).2.2 ≠ 0 then ⟨{}, i + 1, false, (lineR h (lines + 1) cur.dropLast).2.2⟩ else
    if (lineR h (lines + 1) cur.dropLast).2.1 then ⟨(lineR h (lines + 1) cur.dropLast).1, i + 1, true, 0⟩ else
    readR most (lineR h (lines + 1) cur.dropLast).1 (lines + 1) (i + 1) [] r

def outR (n : Nat) (q : PS) : ResR := if codeP q ≠ 0 then ⟨{}, n, false, codeP q⟩ else if q.whole then ⟨q.head, n, true, 0⟩ else ⟨{}, n, false, 0⟩

theorem status3_len {s : L} {n : Nat} (h : status3 s = some n) : s.length = 3 := by rw [(status3_some h).1]; rfl

/-- the first line -/
theorem first_same {p : PS} {r : Bool} (hst : p.st = (if r then .request else .response)) (hh : p.head = { request := r }) (s : L) (hne : ¬ (r = true ∧ s = [] ∧ p.lines ≤ 4)) :
    (stateP p s).2 = (firstR r s).2 ∧ ((stateP p s).2 = 0 → (stateP p s).1 = { p with head := (firstR r s).1, st := .field } ∧ begunR (firstR r s).1 = true) := by
  unfold stateP
  cases r with
  | true =>
    simp only [if_true] at hst
    rw [hst]
    simp only [requestP]
    rw [if_neg (by simpa using hne), split_cut]
    unfold firstR cut2R
    cases h1 : cutP 32 s with
    | none => simp
    | some ab =>
      obtain ⟨a, b⟩ := ab
      simp only
      rw [split_cut]
      cases h2 : cutP 32 b with
      | none => simp
      | some cd =>
        obtain ⟨c, d⟩ := cd
        simp only [or_self, if_false, if_true, Bool.true_eq_false]
        rw [split_cut]
        cases h3 : cutP 32 d with
        | none =>
          simp only
          cases hv : c.all visP with
          | false => simp [visibleP, hv]
          | true =>
            cases ht : tokenP a with
            | false => simp
            | true =>
              cases c with
              | nil => simp [visibleP]
              | cons x c =>
                have hvis : visibleP (x :: c) = true := by unfold visibleP; rw [hv]; rfl
                simp only [hvis, Bool.and_self, if_true, Bool.not_true, Bool.false_eq_true, if_false, List.isEmpty_cons, Bool.or_self, hh, true_and]
                intro _
                have hm := (token_each ht).1
                simp [begunR, hm]
        | some ef =>
          obtain ⟨e, f⟩ := ef
          have hv : (versionP d).2 = 80 := by
            have := (cut_some h3).1
            cases hd : (versionP d).2 with
            | zero =>
              exfalso
              have := (version_ok hd).2
              rw [this] at h3
              rw [cut_none _ (fun x hx => (ver_noblank x hx).1)] at h3
              cases h3
            | succ k =>
              unfold versionP at hd
              split at hd
              · cases hd
              · split at hd
                · cases hd
                · split at hd
                  · rename_i a' b' c' d' e' f' g' h' _ _
                    split at hd
                    · rename_i h8
                      exfalso
                      obtain ⟨k1, k2, k3, k4⟩ := h8
                      simp only [List.cons.injEq, and_true] at k1
                      obtain ⟨rfl, rfl, rfl, rfl, rfl⟩ := k1
                      subst k3
                      have n1 := digit_range k2
                      have n2 := digit_range k4
                      have u1 : f' ≠ 32 := by rintro rfl; simp at n1
                      have u2 : h' ≠ 32 := by rintro rfl; simp at n2
                      rw [cut_none _ (by simp [u1, u2])] at h3
                      cases h3
                    · simp at hd; omega
                  · simp at hd; omega
          simp only
          obtain ⟨y, ys, hy⟩ : ∃ y ys, splitP 32 f = y :: ys := by
            cases hf : splitP 32 f with
            | nil => exact absurd hf (split_ne _ _)
            | cons y ys => exact ⟨y, ys, rfl⟩
          rw [hy]
          simp only [hv]
          constructor
          · split <;> (try rfl)
            split <;> rfl
          · intro h; simp at h
  | false =>
    simp only [Bool.false_eq_true, if_false] at hst
    rw [hst]
    simp only [responseP]
    unfold firstR cut2R
    cases h1 : cutP 32 s with
    | none => simp
    | some ab =>
      obtain ⟨a, b⟩ := ab
      simp only
      cases h2 : cutP 32 b with
      | none => simp
      | some cd =>
        obtain ⟨c, d⟩ := cd
        simp only [or_self, if_false, Bool.false_eq_true, Bool.true_eq_false]
        cases h3 : status3 c with
        | none =>
          simp only
          constructor
          · split <;> rfl
          · split <;> (intro h; simp at h)
        | some n =>
          have hl := status3_len h3
          simp only [hl, ne_eq, not_true_eq_false, false_or]
          cases hd : d.all vcharP with
          | false => simp
          | true =>
            simp only [Bool.true_eq_false, if_false]
            by_cases hn : n < 100 ∨ n > 599
            · rw [if_pos hn, if_pos (by omega)]; simp
            · rw [if_neg hn]
              by_cases hv : (versionP a).2 = 80
              · rw [if_pos (by omega), hv]; simp
              · rw [if_neg (by omega)]
                simp only [true_and]
                intro _
                rw [hh]
                refine ⟨rfl, ?_⟩
                unfold begunR
                simp
                omega

def errE : Except Nat FieldP → Nat
  | .error e => e
  | .ok _ => 0
theorem field_same (n : Nat) (s : L) (hn : n ≤ 100) (hs : s ≠ []) :
    errE (fieldLine n s) = (if (fieldR s).2 = 0 ∧ n ≥ 100 then 85 else (fieldR s).2) ∧
    ∀ f, fieldLine n s = .ok f → f = (fieldR s).1 := by
  cases s with
  | nil => exact absurd rfl hs
  | cons x r =>
    by_cases hb : blankP x = true
    · have e1 : fieldLine n (x :: r) = .error 82 := by simp [fieldLine, hb]
      have e2 : fieldR (x :: r) = (⟨[], []⟩, 82) := by simp [fieldR, hb]
      rw [e1, e2]; simp [errE]
    · cases hc : cutP 58 (x :: r) with
      | none =>
        have e1 : fieldLine n (x :: r) = .error 84 := by simp [fieldLine, hb, hc]
        have e2 : fieldR (x :: r) = (⟨[], []⟩, 84) := by simp [fieldR, hb, hc]
        rw [e1, e2]; simp [errE]
      | some nv =>
        obtain ⟨name, value⟩ := nv
        by_cases h1 : lastBlank name = true
        · have e1 : fieldLine n (x :: r) = .error 83 := by simp [fieldLine, hb, hc, h1]
          have e2 : fieldR (x :: r) = (⟨[], []⟩, 83) := by simp [fieldR, hb, hc, h1]
          rw [e1, e2]; simp [errE]
        · by_cases h2 : tokenP name = true
          · by_cases h3 : valueP (trimP value) = true
            · have e2 : fieldR (x :: r) = (⟨name, trimP value⟩, 0) := by simp [fieldR, hb, hc, h1, h2, h3]
              rw [e2]
              by_cases h4 : n = 100
              · have e1 : fieldLine n (x :: r) = .error 85 := by simp [fieldLine, hb, hc, h1, h2, h3, h4]
                rw [e1, if_pos (by simp; omega)]
                simp [errE]
              · have e1 : fieldLine n (x :: r) = .ok ⟨name, trimP value⟩ := by simp [fieldLine, hb, hc, h1, h2, h3, h4]
                rw [e1, if_neg (by simp; omega)]
                simp [errE]
            · have e1 : fieldLine n (x :: r) = .error 71 := by simp [fieldLine, hb, hc, h1, h2, h3]
              have e2 : fieldR (x :: r) = (⟨[], []⟩, 71) := by simp [fieldR, hb, hc, h1, h2, h3]
              rw [e1, e2]; simp [errE]
          · have e1 : fieldLine n (x :: r) = .error 70 := by simp [fieldLine, hb, hc, h1, h2]
            have e2 : fieldR (x :: r) = (⟨[], []⟩, 70) := by simp [fieldR, hb, hc, h1, h2]
            rw [e1, e2]; simp [errE]

structure Rel (r : Bool) (p : PS) (h : HeadP) (lines i : Nat) (cur : L) : Prop where
  inv : Inv r p
  whole : p.whole = false
  err : p.err = none
  head : p.head = h
  lines : p.lines = lines
  read : p.read = i
  cur : p.line = cur
  begun : p.st = .field ↔ begunR h = true

theorem code_some {q : PS} {e : ErrP} (h : q.err = some e) : codeP q = e.code := by unfold codeP; rw [h]
theorem code_none {q : PS} (h : q.err = none) : codeP q = 0 := by unfold codeP; rw [h]

theorem read_same (r : Bool) (most : Nat) (b : L) : ∀ (p : PS) (h : HeadP) (lines i : Nat) (cur : L), p.most = most → Rel r p h lines i cur →
    readR most h lines i cur b = outR (i + (feedP p b).1) (feedP p b).2 := by
  induction b with
  | nil =>
    intro p h lines i cur hm R
    simp [readR, feedP, outR, code_none R.err, R.whole]
  | cons c b ih =>
    intro p h lines i cur hm R
    have hs : p.stops = false := by simp [PS.stops, R.whole, R.err]
    rw [feed_go hs]
    simp only [readR]
    obtain ⟨s, hn, hlen, hline⟩ := R.inv.line
    by_cases h1 : ((c == 10) != afterP cur) = true
    · rw [if_pos h1]
      have : (stepP p c).err = some ⟨none, 81⟩ := by unfold stepP takeP; rw [R.cur, if_pos h1]
      have hst : (stepP p c).stops = true := by simp [PS.stops, this]
      rw [feed_stop hst]
      simp [outR, code_some this]
    · rw [if_neg h1]
      have hge : (p.read + 1 > p.most ∨ (afterP p.line = false ∧ grownP c p.line.length > 8192)) ↔ (i + 1 > most ∨ (c ≠ 10 ∧ c ≠ 13 ∧ cur.length + 1 > 8192)) := by
        rw [R.read, hm, R.cur]
        constructor
        · rintro (h | ⟨ha, hg⟩)
          · exact .inl h
          · by_cases h10 : c = 10
            · subst h10; rw [ha] at h1; simp at h1
            · by_cases h13 : c = 13
              · subst h13
                exfalso
                have e : grownP 13 cur.length = cur.length := by simp [grownP]
                rw [e] at hg
                rw [R.cur] at hline
                rcases hline with rfl | rfl
                · omega
                · simp [afterP] at ha
              · have e : grownP c cur.length = cur.length + 1 := by simp [grownP, h10, h13]
                rw [e] at hg
                exact .inr ⟨h10, h13, hg⟩
        · rintro (h | ⟨h10, h13, hg⟩)
          · exact .inl h
          · have e : grownP c cur.length = cur.length + 1 := by simp [grownP, h10, h13]
            have ha : afterP cur = false := by
              cases h : afterP cur with
              | false => rfl
              | true => rw [h] at h1; simp [h10] at h1
            exact .inr ⟨ha, by rw [e]; exact hg⟩
      by_cases h2 : p.read + 1 > p.most ∨ (afterP p.line = false ∧ grownP c p.line.length > 8192)
      · rw [if_pos (hge.1 h2)]
        have : (stepP p c).err = some ⟨none, 85⟩ := by unfold stepP takeP; rw [if_neg (by rw [R.cur]; exact h1)]; simp only; rw [if_pos h2]
        have hst : (stepP p c).stops = true := by simp [PS.stops, this]
        rw [feed_stop hst]
        simp [outR, code_some this]
      · rw [if_neg (fun h => h2 (hge.2 h))]
        by_cases h10 : c = 10
        · subst h10
          have ha : afterP p.line = true := by
            rw [R.cur]
            cases h : afterP cur with
            | true => rfl
            | false => rw [h] at h1; simp at h1
          have hstep := step_lf ha (by omega : p.read + 1 ≤ p.most)
          rw [if_neg (by simp)]
          have hp2 : p.st = (if r then StP.request else StP.response) → p.st ≠ .field := by intro h; rw [h]; cases r <;> simp
          -- what the line does
          have hline : (stateP { p with read := p.read + 1, line := [], lines := p.lines + 1 } p.line.dropLast).2 = (lineR h (lines + 1) cur.dropLast).2.2 ∧
              ((stateP { p with read := p.read + 1, line := [], lines := p.lines + 1 } p.line.dropLast).2 = 0 →
                (stateP { p with read := p.read + 1, line := [], lines := p.lines + 1 } p.line.dropLast).1.head = (lineR h (lines + 1) cur.dropLast).1 ∧
                (stateP { p with read := p.read + 1, line := [], lines := p.lines + 1 } p.line.dropLast).1.whole = (lineR h (lines + 1) cur.dropLast).2.1 ∧
                (stateP { p with read := p.read + 1, line := [], lines := p.lines + 1 } p.line.dropLast).1.lines = lines + 1 ∧
                (stateP { p with read := p.read + 1, line := [], lines := p.lines + 1 } p.line.dropLast).1.line = [] ∧
                (stateP { p with read := p.read + 1, line := [], lines := p.lines + 1 } p.line.dropLast).1.most = most ∧
                ((lineR h (lines + 1) cur.dropLast).2.1 = false → ((stateP { p with read := p.read + 1, line := [], lines := p.lines + 1 } p.line.dropLast).1.st = .field ↔ begunR (lineR h (lines + 1) cur.dropLast).1 = true))) := by
            rw [R.cur]
            by_cases hf : p.st = .field
            · have hb := R.begun.1 hf
              have hfew := (R.inv.begun hf).1.few
              rw [R.head] at hfew
              unfold stateP lineR
              rw [hf]
              simp only [hb, Bool.true_eq_false, if_false, fieldP]
              by_cases h0 : cur.dropLast = []
              · rw [if_pos h0, if_pos h0]
                simp [R.head, R.lines, hm]
              · rw [if_neg h0, if_neg h0]
                obtain ⟨k1, k2⟩ := field_same h.fields.length cur.dropLast hfew h0
                rw [R.head]
                cases hfl : fieldLine h.fields.length cur.dropLast with
                | error e =>
                  rw [hfl] at k1
                  simp only [errE] at k1
                  simp only [← k1, true_and]
                  intro he
                  exact absurd he (fieldLine_err hfl)
                | ok f =>
                  rw [hfl] at k1
                  simp only [errE] at k1
                  simp only [← k1, true_and, R.whole, R.lines, hm, k2 f hfl, hf, true_iff]
                  intro _ _
                  simpa [begunR] using hb
            · have hst := R.inv.start hf
              have hbf : begunR h = false := by
                cases hb : begunR h with
                | false => rfl
                | true => exact absurd (R.begun.2 hb) hf
              have hreq : h.request = r := by rw [← R.head]; exact R.inv.req
              unfold lineR
              rw [if_pos hbf]
              by_cases h0 : r = true ∧ cur.dropLast = [] ∧ p.lines + 1 ≤ 4
              · rw [if_pos (by rw [hreq, ← R.lines]; exact h0)]
                have hq : p.st = .request := by rw [hst.2, h0.1]; rfl
                unfold stateP
                rw [hq]
                simp only [requestP]
                rw [if_pos ⟨h0.2.1, h0.2.2⟩]
                simp [R.head, R.whole, R.lines, hm, hbf]
              · rw [if_neg (by rw [hreq, ← R.lines]; exact h0)]
                obtain ⟨k1, k2⟩ := first_same (p := { p with read := p.read + 1, line := [], lines := p.lines + 1 }) (r := r) hst.2 hst.1 cur.dropLast h0
                rw [hreq]
                refine ⟨k1, fun he => ?_⟩
                obtain ⟨k3, k4⟩ := k2 he
                rw [k3]
                simp [R.whole, R.lines, hm, k4]
          obtain ⟨l1, l2⟩ := hline
          by_cases he : (lineR h (lines + 1) cur.dropLast).2.2 = 0
          · rw [if_neg (by simpa using he)]
            rw [he] at l1
            obtain ⟨m1, m2, m3, m4, m5, m6⟩ := l2 l1
            have herr : (stepP p 10).err = none := by rw [hstep]; simp [settle, l1]
            obtain ⟨i1, i2⟩ := inv_step R.inv hs herr
            rw [hstep] at i1 i2 ⊢
            generalize stateP { p with read := p.read + 1, line := [], lines := p.lines + 1 } p.line.dropLast = q at *
            have hset : settle q = { q.1 with err := none } := by simp [settle, l1]
            rw [hset] at i1 i2 ⊢
            by_cases hw : (lineR h (lines + 1) cur.dropLast).2.1 = true
            · rw [if_pos hw]
              rw [hw] at m2
              have hstop : ({ q.1 with err := none } : PS).stops = true := by simp [PS.stops, m2]
              rw [feed_stop hstop]
              simp [outR, codeP, m2, m1]
            · rw [if_neg hw]
              simp only [Bool.not_eq_true] at hw
              rw [hw] at m2
              have := ih { q.1 with err := none } (lineR h (lines + 1) cur.dropLast).1 (lines + 1) (i + 1) [] m5
                ⟨i1, m2, rfl, m1, m3, by rw [i2, R.read], m4, m6 hw⟩
              rw [this]
              congr 1
              omega
          · rw [if_pos he]
            have herr : (stepP p 10).err = some ⟨some (stateP { p with read := p.read + 1, line := [], lines := p.lines + 1 } p.line.dropLast).1.lines, (lineR h (lines + 1) cur.dropLast).2.2⟩ := by
              rw [hstep]
              simp [settle, l1, he]
            have hstop : (stepP p 10).stops = true := by simp [PS.stops, herr]
            rw [feed_stop hstop]
            simp [outR, code_some herr, he]
        · rw [if_pos h10]
          have hstep : stepP p c = { p with read := p.read + 1, line := p.line ++ [c], err := none } := by
            unfold stepP takeP
            rw [if_neg (by rw [R.cur]; exact h1)]
            simp only
            rw [if_neg h2, if_pos (by simpa using h10)]
          have herr : (stepP p c).err = none := by rw [hstep]
          obtain ⟨i1, i2⟩ := inv_step R.inv hs herr
          rw [hstep] at i1 i2 ⊢
          have := ih { p with read := p.read + 1, line := p.line ++ [c], err := none } h lines (i + 1) (cur ++ [c]) hm
            ⟨i1, R.whole, rfl, R.head, R.lines, by rw [i2, R.read], by rw [R.cur], R.begun⟩
          rw [this]
          congr 1
          omega

theorem read_new (r : Bool) (most : Nat) (b : L) : readR most { request := r } 0 0 [] b = outR (feedP (newP r most) b).1 (feedP (newP r most) b).2 := by
  have := read_same r most b (newP r most) { request := r } 0 0 [] rfl ⟨inv_new r most, rfl, rfl, rfl, rfl, rfl, rfl, by cases r <;> simp [newP, begunR]⟩
  rw [this]
  simp

end Hp

/-! Readers that go byte by byte; bodies; framing. -/
namespace Hp

/-- A reader of bytes: what it does with a byte, and when it reads no more. -/
structure Mach (S : Type) where
  step : S → UInt8 → S × L
  stops : S → Bool

namespace Mach
variable {S : Type} (M : Mach S)

def run : S → L → Nat × S × L
  | s, [] => (0, s, [])
  | s, c :: r => if M.stops s then (0, s, []) else
    let x := run (M.step s c).1 r
    (x.1 + 1, x.2.1, (M.step s c).2 ++ x.2.2)

theorem run_nil (s : S) : M.run s [] = (0, s, []) := rfl
theorem run_stop {s : S} (h : M.stops s = true) (b : L) : M.run s b = (0, s, []) := by
  cases b with
  | nil => rfl
  | cons c r => simp [run, h]
theorem run_go {s : S} (h : M.stops s = false) (c : UInt8) (r : L) :
    M.run s (c :: r) = ((M.run (M.step s c).1 r).1 + 1, (M.run (M.step s c).1 r).2.1, (M.step s c).2 ++ (M.run (M.step s c).1 r).2.2) := by
  simp [run, h]
theorem run_le (b : L) : ∀ s : S, (M.run s b).1 ≤ b.length := by
  induction b with
  | nil => intro s; simp [run]
  | cons c r ih =>
    intro s
    cases h : M.stops s with
    | true => rw [M.run_stop h]; simp
    | false => rw [M.run_go h]; have := ih (M.step s c).1; simp; omega
theorem run_all (b : L) : ∀ s : S, M.stops (M.run s b).2.1 = false → (M.run s b).1 = b.length := by
  induction b with
  | nil => intro s _; rfl
  | cons c r ih =>
    intro s h
    cases hs : M.stops s with
    | true => rw [M.run_stop hs] at h; rw [hs] at h; cases h
    | false => rw [M.run_go hs] at h ⊢; simp [ih _ h]
theorem run_append (a b : L) : ∀ s : S, M.run s (a ++ b) =
    ((M.run s a).1 + (M.run (M.run s a).2.1 b).1, (M.run (M.run s a).2.1 b).2.1, (M.run s a).2.2 ++ (M.run (M.run s a).2.1 b).2.2) := by
  induction a with
  | nil => intro s; simp [run]
  | cons c r ih =>
    intro s
    cases hs : M.stops s with
    | true => rw [List.cons_append, M.run_stop hs, M.run_stop hs]; simp only; rw [M.run_stop hs]; simp
    | false =>
      rw [List.cons_append, M.run_go hs, M.run_go hs, ih]
      simp only [Prod.mk.injEq, List.append_assoc, true_and, and_true]
      omega
theorem run_take (b : L) : ∀ s : S, M.run s (b.take (M.run s b).1) = M.run s b := by
  induction b with
  | nil => intro s; simp [run]
  | cons c r ih =>
    intro s
    cases hs : M.stops s with
    | true => rw [M.run_stop hs, M.run_stop hs]
    | false => rw [M.run_go hs, List.take_succ_cons, M.run_go hs, ih]
theorem run_less (b : L) : ∀ (s : S) (k : Nat), k < (M.run s b).1 → M.stops (M.run s (b.take k)).2.1 = false := by
  induction b with
  | nil => intro s k h; simp [run] at h
  | cons c r ih =>
    intro s k h
    cases hs : M.stops s with
    | true => rw [M.run_stop hs] at h; simp at h
    | false =>
      rw [M.run_go hs] at h
      cases k with
      | zero => simpa [run] using hs
      | succ k => rw [List.take_succ_cons, M.run_go hs]; exact ih _ _ (by simpa using h)
end Mach

/-! ### lexis -/
def lowB (c : UInt8) : UInt8 := if 65 ≤ c && c ≤ 90 then c + 32 else c
def lowerP (s : L) : L := s.map lowB
def digitOf (base : Nat) (c : UInt8) : Option Nat :=
  let d := if 48 ≤ c && c ≤ 57 then some (c.toNat - 48) else if 97 ≤ c && c ≤ 102 then some (c.toNat - 97 + 10) else if 65 ≤ c && c ≤ 70 then some (c.toNat - 65 + 10) else none
  match d with
  | some d => if d < base then some d else none
  | none => none
def maxSize : Nat := 9007199254740992
/-- what digits say, from a number on -/
def digitsGo (base : Nat) : Nat → L → Option Nat
  | n, [] => some n
  | n, c :: r => match digitOf base c with
    | none => none
    | some d => digitsGo base (if n > maxSize then n else n * base + d) r
/-- (a number, what is wrong) -/
def digitsP (base : Nat) (s : L) : Nat × Nat :=
  match digitsGo base 0 s with
  | none => (0, 50)
  | some n => if s = [] then (0, 50) else if n > maxSize then (0, 51) else (n, 0)

def flushP (part : L) : List L := if trimP part = [] then [] else [trimP part]
def listGo : L → Bool → L → List L
  | part, _, [] => flushP part
  | part, q, [c] => if c = 44 ∧ q = false then flushP part ++ flushP [] else flushP (part ++ [c])
  | part, q, c :: d :: r =>
    if c = 44 ∧ q = false then flushP part ++ listGo [] q (d :: r)
    else if c = 92 ∧ q = true then listGo (part ++ [c, d]) q r
    else listGo (part ++ [c]) (if c = 34 then !q else q) (d :: r)
  termination_by _ _ s => s.length
def listP (s : L) : List L := listGo [] false s

/-! ### fields, framing -/
def allP (l : List FieldP) (name : L) : List L := (l.filter fun f => lowerP f.name == lowerP name).map (·.value)
def itemsP (l : List FieldP) (name : L) : List L := (allP l name).flatMap fun v => (listP v).map lowerP
def hasP (l : List FieldP) (name item : L) : Bool := (itemsP l name).contains (lowerP item)

def sConnection : L := [99,111,110,110,101,99,116,105,111,110]
def sClose : L := [99,108,111,115,101]
def sKeepAlive : L := [107,101,101,112,45,97,108,105,118,101]
def sTE : L := [116,114,97,110,115,102,101,114,45,101,110,99,111,100,105,110,103]
def sCL : L := [99,111,110,116,101,110,116,45,108,101,110,103,116,104]
def sChunked : L := [99,104,117,110,107,101,100]
def sHEAD : L := [72,69,65,68]

structure FrP where
  kind : Nat := 0
  length : Nat := 0
  keep : Bool := false
  deriving DecidableEq, Inhabited

def keepP (h : HeadP) : Bool :=
  if hasP h.fields sConnection sClose then false else h.minor = 1 || (h.minor = 0 && hasP h.fields sConnection sKeepAlive)

def lengthP (h : HeadP) : Nat × Nat :=
  match itemsP h.fields sCL with
  | [] => (0, 90)
  | x :: r =>
    if (digitsP 10 x).2 ≠ 0 ∨ (x :: r).any (fun s => (digitsP 10 s).2 != 0 || (digitsP 10 s).1 != (digitsP 10 x).1) then (0, 90) else ((digitsP 10 x).1, 0)

/-- the framing that fields tell (kind 4: they tell none), and what is wrong -/
def toldP (h : HeadP) : FrP × Nat :=
  let coded := !(allP h.fields sTE).isEmpty
  let sized := !(allP h.fields sCL).isEmpty
  if coded && sized then ({}, 91)
  else if coded then (if h.minor = 1 ∧ itemsP h.fields sTE = [sChunked] then ({ kind := 3, keep := keepP h }, 0) else ({}, 92))
  else if sized then (if (lengthP h).2 = 0 then ({ kind := 2, length := (lengthP h).1, keep := keepP h }, 0) else ({}, (lengthP h).2))
  else ({ kind := 4, keep := keepP h }, 0)

def frRequestP (h : HeadP) : FrP × Nat :=
  if !h.request then ({}, 1) else
  ((if (toldP h).1.kind = 4 then { (toldP h).1 with kind := 1 } else (toldP h).1), (toldP h).2)
def frResponseP (h : HeadP) (method : L) : FrP × Nat :=
  if h.request then ({}, 1) else
  if h.status < 200 ∨ h.status = 204 ∨ h.status = 304 ∨ method = sHEAD then ({ kind := 1, keep := keepP h }, 0) else
  ((if (toldP h).1.kind = 4 then { (toldP h).1 with keep := false } else (toldP h).1), (toldP h).2)

/-! ### chunked -/
inductive DecSt | size | data | «end» | trailer
  deriving DecidableEq
structure Dec where
  left : Nat
  need : Nat := 0
  line : L := []
  st : DecSt := .size
  trailers : List FieldP := []
  whole : Bool := false
  wrong : Nat := 0

def linedP (d : Dec) (c : UInt8) : Dec × Option L × Nat :=
  if (c == 10) != afterP d.line then (d, none, 100)
  else if c == 10 then ({ d with line := [] }, some d.line.dropLast, 0)
  else if c ≠ 13 ∧ d.line.length ≥ 8192 then (d, none, 100)
  else ({ d with line := d.line ++ [c] }, none, 0)

def cutOr (c : UInt8) (s : L) : L × L := match cutP c s with | some p => p | none => (s, [])

def sizeStep (d : Dec) (s : L) : Dec × Nat :=
  let x := cutOr 59 s
  if (digitsP 16 x.1).2 ≠ 0 ∨ x.2.all vcharP = false then (d, 100)
  else if (digitsP 16 x.1).1 > d.left then (d, 2)
  else if (digitsP 16 x.1).1 = 0 then ({ d with st := .trailer }, 0)
  else ({ d with left := d.left - (digitsP 16 x.1).1, need := (digitsP 16 x.1).1, st := .data }, 0)

def trailerStep (d : Dec) (s : L) : Dec × Nat :=
  if s = [] then ({ d with whole := true }, 0) else
  match cutP 58 s with
  | none => (d, 100)
  | some (name, value) =>
    if d.trailers.length = 100 ∨ tokenP name = false ∨ valueP (trimP value) = false then (d, 100)
    else ({ d with trailers := d.trailers ++ [⟨name, trimP value⟩] }, 0)

def decTake (d : Dec) (c : UInt8) : (Dec × Nat) × L :=
  match d.st with
  | .size => match linedP d c with
    | (d, none, e) => ((d, e), [])
    | (d, some s, _) => (sizeStep d s, [])
  | .data => (({ d with need := d.need - 1, st := if d.need - 1 = 0 then .end else .data }, 0), [c])
  | .end =>
    if c ≠ (if d.line.length = 1 then 10 else 13) then ((d, 100), [])
    else if c = 10 then (({ d with line := [], st := .size }, 0), [])
    else (({ d with line := d.line ++ [c] }, 0), [])
  | .trailer => match linedP d c with
    | (d, none, e) => ((d, e), [])
    | (d, some s, _) => (trailerStep d s, [])

def decM : Mach Dec where
  step d c := ({ (decTake d c).1.1 with wrong := (decTake d c).1.2 }, (decTake d c).2)
  stops d := d.whole || d.wrong != 0

/-! ### body -/
structure Bod where
  kind : Nat
  left : Nat
  dec : Dec := { left := 0 }
  whole : Bool := false
  wrong : Nat := 0

def bodAsked (f : FrP) (most : Nat) : Nat :=
  if f.kind < 1 ∨ f.kind > 4 ∨ f.length > maxSize ∨ (f.kind ≠ 2 ∧ f.length ≠ 0) ∨ most > maxSize then 1
  else if f.kind = 2 ∧ f.length > most then 2 else 0
def bodNew (f : FrP) (most : Nat) : Bod :=
  { kind := f.kind, left := if f.kind = 2 then f.length else most, dec := { left := most }, whole := f.kind = 1 || (f.kind = 2 && f.length = 0) }

def bodTake (r : Bod) (c : UInt8) : Bod × L :=
  if r.kind = 2 then ({ r with left := r.left - 1, whole := r.left - 1 = 0 }, [c])
  else if r.kind = 4 then (if r.left = 0 then ({ r with wrong := 2 }, []) else ({ r with left := r.left - 1 }, [c]))
  else ({ r with dec := (decM.step r.dec c).1, whole := (decM.step r.dec c).1.whole, wrong := (decM.step r.dec c).1.wrong }, (decM.step r.dec c).2)
def bodM : Mach Bod where
  step := bodTake
  stops r := r.whole || r.wrong != 0
def bodEnd (r : Bod) : Bod :=
  if r.wrong = 0 ∧ r.whole = false then (if r.kind = 4 then { r with whole := true } else { r with wrong := 110 }) else r

/-! ### upstream -/
structure Ups where
  method : L
  most : Nat
  interim : Nat := 0
  parser : PS
  body : Option Bod := none
  head : HeadP := {}
  framing : FrP := {}
  ended : Bool := false
  wrong : Nat := 0

def upsNew (method : L) (most : Nat) : Ups := { method, most, parser := newP false most }
def upsWhole (r : Ups) : Bool := match r.body with | some b => b.whole | none => false
def upsGot (r : Ups) (h : HeadP) : Ups :=
  if h.status < 200 then
    if h.status = 101 ∨ r.interim + 1 > 8 then { r with interim := r.interim + 1, wrong := 80 }
    else { r with interim := r.interim + 1, parser := newP false r.most }
  else if (frResponseP h r.method).2 ≠ 0 then { r with wrong := (frResponseP h r.method).2 }
  else { r with body := some (bodNew (frResponseP h r.method).1 maxSize), head := h, framing := (frResponseP h r.method).1 }
def upsTake (r : Ups) (c : UInt8) : Ups × L :=
  match r.body with
  | none =>
    let q := stepP r.parser c
    let r1 := { r with parser := q, wrong := codeP q }
    (if q.whole then upsGot r1 q.head else r1, [])
  | some b => ({ r with body := some (bodM.step b c).1, wrong := (bodM.step b c).1.wrong }, (bodM.step b c).2)
def upsM : Mach Ups where
  step := upsTake
  stops r := r.wrong != 0 || upsWhole r
def upsEnd (r : Ups) : Ups :=
  match r.body with
  | some b => if r.wrong = 0 then { r with body := some (bodEnd b), wrong := (bodEnd b).wrong, ended := true } else { r with ended := true }
  | none => if r.wrong = 0 then { r with wrong := 110, ended := true } else { r with ended := true }

/-! ### client -/
structure Cli where
  most : Nat
  room : Nat
  parser : PS
  body : Option Bod := none
  data : L := []
  begun : Bool := false
  waits : Bool := false
  shut : Bool := false
  wrong : Nat := 0

def cliNew (most room : Nat) : Cli := { most, room, parser := newP true most }
def cliFail (c : Cli) (status : Nat) : Cli := { c with wrong := status, shut := true, data := [], begun := false }
def cliFramed (c : Cli) (h : HeadP) : Cli :=
  if (frRequestP h).2 ≠ 0 then cliFail c 400
  else if bodAsked (frRequestP h).1 c.room ≠ 0 then cliFail { c with body := none } 413
  else { c with body := some (bodNew (frRequestP h).1 c.room), waits := (bodNew (frRequestP h).1 c.room).whole }
def cliTake (c : Cli) (x : UInt8) : Cli :=
  match c.body with
  | none =>
    let q := stepP c.parser x
    let c1 := { c with parser := q, begun := true }
    if codeP q = 85 then cliFail c1 431 else if codeP q ≠ 0 then cliFail c1 400 else if q.whole then cliFramed c1 q.head else c1
  | some b =>
    let y := bodM.step b x
    let c1 := { c with body := some y.1, data := c.data ++ y.2 }
    if y.1.wrong = 2 then cliFail c1 413 else if y.1.wrong ≠ 0 then cliFail c1 400 else { c1 with waits := y.1.whole }
def cliM : Mach Cli where
  step c x := (cliTake c x, [])
  stops c := c.waits || c.shut
def cliAnswered (c : Cli) (keep : Bool) : Cli := { c with parser := newP true c.most, body := none, data := [], begun := false, waits := false, shut := !keep }

end Hp
