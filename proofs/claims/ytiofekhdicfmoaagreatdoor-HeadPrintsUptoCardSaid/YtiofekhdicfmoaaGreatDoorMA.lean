import Derived.WalkKit
import Derived.Below
import Derived.OwnWalk
import Derived.Maps.AppendAt
import Derived.Deep.Draws
import Derived.RowKit3
import Derived.Laws.IdiomStrings
import Derived.Laws.BytesArg
import Derived.OrdersHeld
import Derived.Lib.ItoaNum
import Derived.Lib.LaidTab
set_option linter.all false
/- Words for the walks of this seat: memory as a list of what is owned and what is read; the frame of a function as a list of slots. Generic: no program in sight. -/
namespace Go.Hr
open Go Go.RowKit

/-! ### The frame -/
def lk : List (Nat × Value) → (Nat → Value) → Nat → Value
  | [], f, t => f t
  | (d, v) :: l, f, t => bif Nat.beq t d then v else lk l f t

def A (n : Nat) (l : List (Nat × Value)) (f : Nat → Value) : Act := ⟨Array.ofFn (n := n) fun i => lk l f i.val, []⟩

def ev (n : Nat) (l : List (Nat × Value)) (f : Nat → Value) : Operand → Value
  | .tmp t => bif Nat.blt t n then lk l f t else undef
  | .const v => v
  | .global g => .pointer (some ⟨g, 0, none⟩)
  | .func k => .func (.func k) #[] #[]

theorem A_eval (n : Nat) (l : List (Nat × Value)) (f : Nat → Value) : (A n l f).eval = ev n l f := by
  funext o
  cases o with
  | tmp t =>
    simp only [Act.eval, A, ev]
    by_cases h : t < n
    · have : Nat.blt t n = true := by simpa [Nat.blt_eq] using h
      simp [this, h, Array.getD]
    · have : Nat.blt t n = false := by
        cases hb : Nat.blt t n with
        | false => rfl
        | true => exact absurd (Nat.blt_eq.mp hb) h
      simp [this, h, Array.getD]
  | const v => rfl
  | global g => rfl
  | func k => rfl

theorem A_put (n : Nat) (l : List (Nat × Value)) (f : Nat → Value) (d : Nat) (v : Value) : (A n l f).put (some d) v = A n ((d, v) :: l) f := by
  simp only [Act.put, A, Act.mk.injEq, and_true]
  apply Array.ext
  · simp
  · intro i h1 h2
    simp only [Array.size_setIfInBounds, Array.size_ofFn] at h1 h2
    rw [Array.getElem_setIfInBounds]
    simp only [Array.getElem_ofFn, lk]
    by_cases h : d = i
    · subst h
      have : Nat.beq d d = true := by simp
      simp
    · have : Nat.beq i d = false := by
        cases hb : Nat.beq i d with
        | false => rfl
        | true => exact absurd (Nat.eq_of_beq_eq_true hb).symm h
      simp only [h, this, cond_false, if_false]
      rw [Array.getElem_ofFn]
    simpa using h1

theorem A_tmp (n : Nat) (l : List (Nat × Value)) (f : Nat → Value) (d : Nat) (hd : Nat.blt d n = true) : (A n l f).tmps[d]? = some (lk l f d) := by
  have : d < n := Nat.blt_eq.mp hd
  simp [A, this]

theorem A_start (args : List Value) (n : Nat) (h : args.length ≤ n) :
    ({ tmps := args.toArray ++ Array.replicate (n - args.toArray.size) undef, defers := [] } : Act) = A n [] (fun i => args.getD i undef) := by
  simp only [A, Act.mk.injEq, and_true]
  apply Array.ext
  · simp; omega
  · intro i h1 h2
    simp only [Array.getElem_ofFn, lk]
    rw [Array.getElem_append]
    split
    · rename_i hi
      simp at hi
      simp [hi]
    · rename_i hi
      simp at hi
      simp [hi]

/-! ### Memory -/
inductive Own where
  | pt (b : Nat) (ty : TypeId) (cs : List Value)
  | sl (v : Value) (ty : TypeId) (sz n : Nat) (xs : List Value)
  /-- a block of the call's own that is only read from here on -/
  | fz (b : Nat) (ty : TypeId) (xs : List Value)

def Own.blocks : Own → List Nat
  | .pt b _ _ => [b]
  | .sl v _ _ _ _ => v.ownBlock.toList
  | .fz b _ _ => [b]

def Own.holds (w : World) : Own → Prop
  | .pt b ty cs => w.heap[b]? = some (.cells cs.toArray ty (0, 0))
  | .sl v ty sz n xs => w.ownsRow 0 ty sz v n xs
  | .fz b ty xs => ∃ (cs : Array Value) (fr : Nat × Nat), w.heap[b]? = some (.cells cs ty fr) ∧ ∀ (j : Nat) (u : Value), xs[j]? = some u → cs[j]? = some u

structure Ro where
  a : Option Addr
  sz : Nat
  n : Nat
  xs : List Value
  /-- all of the block, where it is told -/
  whole : Option (Array Value)

def Ro.holds (w : World) (r : Ro) : Prop :=
  (r.xs.length = r.n * r.sz ∧ ∀ cs, r.whole = some cs → 0 < r.n ∧ ∃ ad t fr, r.a = some ad ∧ w.heap[ad.block]? = some (.cells cs t fr)) ∧ (0 < r.n → ∃ ad, r.a = some ad ∧ ad.block < w.heap.size ∧ ∀ j u, r.xs[j]? = some u → w.cell? (ad.add j) = some u)

abbrev bl (H : List Own) : List Nat := H.flatMap Own.blocks

structure Holds (w0 : World) (D : List Nat) (w : World) (R : List Ro) (H : List Own) : Prop where
  os : w.os = w0.os
  tape : w.tape = w0.tape
  output : w.output = w0.output
  size : w0.heap.size ≤ w.heap.size
  each : ∀ o ∈ H, o.holds w
  nodup : (bl H).Nodup
  fresh : ∀ b ∈ bl H, b ∈ D ∨ w0.heap.size ≤ b
  frame : ∀ b, b < w0.heap.size → b ∉ D → w.heap[b]? = w0.heap[b]?
  ro : ∀ r ∈ R, r.holds w ∧ (0 < r.n → ∀ ad, r.a = some ad → ad.block ∉ bl H)

inductive Sel : List Own → Own → List Own → Prop
  | here (o : Own) (H : List Own) : Sel (o :: H) o H
  | there {x o : Own} {H H' : List Own} (h : Sel H o H') : Sel (x :: H) o (x :: H')

theorem Sel.perm {H H' : List Own} {o : Own} (s : Sel H o H') : H.Perm (o :: H') := by
  induction s with
  | here => exact List.Perm.refl _
  | there _ ih => exact (List.Perm.cons _ ih).trans (List.Perm.swap _ _ _)
theorem Sel.mem {H H' : List Own} {o : Own} (s : Sel H o H') : o ∈ H := s.perm.mem_iff.2 (by simp)

section
variable {w0 w w' : World} {D : List Nat} {R : List Ro} {H H' : List Own} {o : Own}

theorem bl_perm (h : H.Perm H') : (bl H).Perm (bl H') := h.flatMap_right _
theorem Holds.perm (h : Holds w0 D w R H) (p : H.Perm H') : Holds w0 D w R H' :=
  ⟨h.os, h.tape, h.output, h.size, fun o ho => h.each o (p.mem_iff.2 ho), (bl_perm p).nodup_iff.1 h.nodup,
   fun b hb => h.fresh b ((bl_perm p).mem_iff.2 hb), h.frame, fun r hr => ⟨(h.ro r hr).1, fun hn ad ha hm => (h.ro r hr).2 hn ad ha ((bl_perm p).mem_iff.2 hm)⟩⟩
theorem Holds.sel (h : Holds w0 D w R H) (s : Sel H o H') : Holds w0 D w R (o :: H') := h.perm s.perm
theorem Holds.of_sub {H1 H2 : List Own} (h : Holds w0 D w R (H1 ++ H2)) : Holds w0 D w R H1 :=
  ⟨h.os, h.tape, h.output, h.size, fun o ho => h.each o (List.mem_append_left _ ho),
   by have := h.nodup; rw [bl, List.flatMap_append] at this; exact (List.nodup_append.1 this).1,
   fun b hb => h.fresh b (by rw [bl, List.flatMap_append]; exact List.mem_append_left _ hb), h.frame,
   fun r hr => ⟨(h.ro r hr).1, fun hn ad ha hm => (h.ro r hr).2 hn ad ha (by rw [bl, List.flatMap_append]; exact List.mem_append_left _ hm)⟩⟩
theorem Holds.drop (h : Holds w0 D w R (o :: H)) : Holds w0 D w R H := by
  have := h.perm (H' := H ++ [o]) (by simpa using (List.perm_append_comm (l₁ := [o]) (l₂ := H)))
  exact this.of_sub
theorem Holds.of_drop (h : Holds w0 D w R H) (s : Sel H o H') : Holds w0 D w R H' := (h.sel s).drop

theorem ownsRow_lt {ty : TypeId} {sz n : Nat} {v : Value} {xs : List Value} (h : w.ownsRow 0 ty sz v n xs) {b : Nat} (hb : v.ownBlock = some b) : b < w.heap.size := by
  rcases h.2 with ⟨rfl, _⟩ | ⟨g, cap, cur, rfl, _, hg, _⟩
  · simp [Value.ownBlock] at hb
  · simp [Value.ownBlock] at hb
    subst hb
    rcases Nat.lt_or_ge g w.heap.size with h' | h'
    · exact h'
    · rw [Array.getElem?_eq_none h'] at hg; cases hg
theorem Own.lt (h : o.holds w) {b : Nat} (hb : b ∈ o.blocks) : b < w.heap.size := by
  cases o with
  | pt b' ty cs =>
    simp only [Own.blocks, List.mem_singleton] at hb
    subst hb
    rcases Nat.lt_or_ge b w.heap.size with h' | h'
    · exact h'
    · simp only [Own.holds] at h; rw [Array.getElem?_eq_none h'] at h; cases h
  | sl v ty sz n xs =>
    simp only [Own.blocks, Option.mem_toList] at hb
    exact ownsRow_lt h hb
  | fz b' ty xs =>
    simp only [Own.blocks, List.mem_singleton] at hb
    subst hb
    obtain ⟨cs, fr, hg, _⟩ := h
    rcases Nat.lt_or_ge b w.heap.size with h' | h'
    · exact h'
    · rw [Array.getElem?_eq_none h'] at hg; cases hg
theorem Holds.lt (h : Holds w0 D w R H) {b : Nat} (hb : b ∈ bl H) : b < w.heap.size := by
  obtain ⟨o, ho, hbo⟩ := List.mem_flatMap.1 hb
  exact Own.lt (h.each o ho) hbo

theorem Own.keep (h : o.holds w) (hk : ∀ b ∈ o.blocks, w'.heap[b]? = w.heap[b]?) : o.holds w' := by
  cases o with
  | pt b ty cs => exact (hk b (by simp [Own.blocks])).trans h
  | sl v ty sz n xs =>
    refine ⟨h.1, ?_⟩
    rcases h.2 with ⟨hv, hn⟩ | ⟨g, cap, cur, hv, hb, hg, r1, r2, r3, r4⟩
    · exact .inl ⟨hv, hn⟩
    · exact .inr ⟨g, cap, cur, hv, hb, (hk g (by simp [Own.blocks, hv, Value.ownBlock])).trans hg, r1, r2, r3, r4⟩
  | fz b ty xs =>
    obtain ⟨cs, fr, hg, hx⟩ := h
    exact ⟨cs, fr, (hk b (by simp [Own.blocks])).trans hg, hx⟩
theorem Ro.keep {r : Ro} (h : r.holds w) (hs : w.heap.size ≤ w'.heap.size) (hk : ∀ ad, r.a = some ad → 0 < r.n → w'.heap[ad.block]? = w.heap[ad.block]?) : r.holds w' := by
  refine ⟨⟨h.1.1, fun cs hcs => ?_⟩, fun hn => ?_⟩
  · obtain ⟨hn, ad, t, fr, ha, hb⟩ := h.1.2 cs hcs
    exact ⟨hn, ad, t, fr, ha, (hk ad ha hn).trans hb⟩
  obtain ⟨ad, ha, hb, hc⟩ := h.2 hn
  have bk : ∀ k, (ad.add k).block = ad.block := fun k => by unfold Addr.add; split <;> rfl
  exact ⟨ad, ha, by omega, fun j u hu => (World.cell?_of_block (by rw [bk]; exact hk ad ha hn)).trans (hc j u hu)⟩
theorem Ro.lt {r : Ro} (h : r.holds w) {ad : Addr} (ha : r.a = some ad) (hn : 0 < r.n) : ad.block < w.heap.size := by
  obtain ⟨ad', ha', hb, _⟩ := h.2 hn
  rw [ha] at ha'; injection ha' with e; subst e; exact hb

/-- The world turns at blocks that are owned, and where nothing was: what is owned now is H'. -/
theorem Holds.step (h : Holds w0 D w R H) (hos : w'.os = w.os) (htp : w'.tape = w.tape) (hout : w'.output = w.output) (hs : w.heap.size ≤ w'.heap.size)
    (hk : ∀ b, b < w.heap.size → b ∉ bl H → w'.heap[b]? = w.heap[b]?) (he : ∀ o ∈ H', o.holds w') (hn : (bl H').Nodup)
    (hf : ∀ b ∈ bl H', b ∈ bl H ∨ w.heap.size ≤ b) : Holds w0 D w' R H' := by
  refine ⟨hos.trans h.os, htp.trans h.tape, hout.trans h.output, Nat.le_trans h.size hs, he, hn, ?_, ?_, ?_⟩
  · intro b hb
    rcases hf b hb with hb | hb
    · exact h.fresh b hb
    · exact .inr (Nat.le_trans h.size hb)
  · intro b hb hD
    refine (hk b (Nat.lt_of_lt_of_le hb h.size) (fun hm => ?_)).trans (h.frame b hb hD)
    rcases h.fresh b hm with hd | hd
    · exact hD hd
    · omega
  · intro r hr
    obtain ⟨h1, h2⟩ := h.ro r hr
    refine ⟨Ro.keep h1 hs (fun ad ha hn => hk _ (Ro.lt h1 ha hn) (h2 hn ad ha)), fun hn ad ha hm => ?_⟩
    rcases hf _ hm with hb | hb
    · exact h2 hn ad ha hb
    · have := Ro.lt h1 ha hn; omega

theorem Holds.drew (h : Holds w0 D w R H) : Holds w0 D w.drew R H :=
  ⟨h.os, h.tape, h.output, h.size, fun o ho => Own.keep (h.each o ho) (fun _ _ => rfl), h.nodup, h.fresh, h.frame, fun r hr => ⟨Ro.keep (h.ro r hr).1 (Nat.le_refl _) (fun _ _ _ => rfl), (h.ro r hr).2⟩⟩
theorem Holds.drewN (h : Holds w0 D w R H) (n : Nat) : Holds w0 D (w.drewN n) R H :=
  ⟨h.os, h.tape, h.output, h.size, fun o ho => Own.keep (h.each o ho) (fun _ _ => rfl), h.nodup, h.fresh, h.frame, fun r hr => ⟨Ro.keep (h.ro r hr).1 (Nat.le_refl _) (fun _ _ _ => rfl), (h.ro r hr).2⟩⟩

theorem Holds.alloc (h : Holds w0 D w R H) (cs : List Value) (ty : TypeId) : Holds w0 D (w.alloc (.cells cs.toArray ty)) R (.pt w.heap.size ty cs :: H) := by
  refine h.step rfl rfl rfl (by simp) (fun b hb _ => Below.heap_alloc w _ b hb) ?_ ?_ ?_
  · intro o ho
    rcases List.mem_cons.1 ho with rfl | ho
    · exact heap_alloc_new w _
    · exact Own.keep (h.each o ho) (fun b hb => Below.heap_alloc w _ b (Own.lt (h.each o ho) hb))
  · simp only [bl, List.flatMap_cons, Own.blocks, List.singleton_append, List.nodup_cons]
    exact ⟨fun hm => Nat.lt_irrefl _ (h.lt hm), h.nodup⟩
  · intro b hb
    simp only [bl, List.flatMap_cons, Own.blocks, List.singleton_append, List.mem_cons] at hb
    rcases hb with rfl | hb
    · exact .inr (Nat.le_refl _)
    · exact .inl hb

theorem Holds.set (h : Holds w0 D w R H) {b i : Nat} {ty : TypeId} {cs : List Value} (s : Sel H (.pt b ty cs) H') (v : Value) :
    Holds w0 D (w.setCell ⟨b, i, none⟩ v) R (.pt b ty (cs.set i v) :: H') := by
  have hb : w.heap[b]? = some (.cells cs.toArray ty (0, 0)) := h.each _ s.mem
  have hp := bl_perm s.perm
  have hnd := hp.nodup_iff.1 h.nodup
  simp only [bl, List.flatMap_cons, Own.blocks, List.singleton_append, List.nodup_cons] at hnd
  refine h.step rfl rfl rfl (by simp) (fun k _ hk => Below.heap_setCell w _ _ k (by rintro rfl; exact hk (hp.mem_iff.2 (by simp [bl, Own.blocks])))) ?_ ?_ ?_
  · intro o ho
    rcases List.mem_cons.1 ho with rfl | ho'
    · simp only [Own.holds, World.setCell, Array.getElem?_modify, if_true, hb, Option.map_some, Option.isSome_none, Bool.false_eq_true, if_false]
      simp
    · refine Own.keep (h.each o (s.perm.mem_iff.2 (List.mem_cons_of_mem _ ho'))) (fun k hk => Below.heap_setCell w _ _ k ?_)
      intro e
      have e' : k = b := e
      subst e'
      exact hnd.1 (List.mem_flatMap.2 ⟨o, ho', hk⟩)
  · simp only [bl, List.flatMap_cons, Own.blocks, List.singleton_append, List.nodup_cons]
    exact hnd
  · intro k hk
    exact .inl (hp.mem_iff.2 (by simpa [bl, Own.blocks] using hk))

/-- A slice that the call owns, put in another's place (append, a store). -/
theorem Holds.put (h : Holds w0 D w R H) {v v' : Value} {ty ty' : TypeId} {sz sz' n n' : Nat} {xs xs' : List Value} (s : Sel H (.sl v ty sz n xs) H')
    (hg : w.grownBy w' v.ownBlock) (ho : w'.ownsRow 0 ty' sz' v' n' xs') (hat : v'.ownBlock = v.ownBlock ∨ v'.ownBlock = none ∨ ∃ g, v'.ownBlock = some g ∧ w.heap.size ≤ g) :
    Holds w0 D w' R (.sl v' ty' sz' n' xs' :: H') := by
  have hp := bl_perm s.perm
  have hnd := hp.nodup_iff.1 h.nodup
  simp only [bl, List.flatMap_cons, Own.blocks] at hnd
  have hdis : ∀ b, v.ownBlock = some b → b ∉ bl H' := fun b hb hm => by
    rw [hb] at hnd
    simp only [Option.toList_some, List.singleton_append, List.nodup_cons] at hnd
    exact hnd.1 hm
  have hnd' : (bl H').Nodup := (List.nodup_append.1 hnd).2.1
  have hlt' : ∀ b ∈ bl H', b < w.heap.size := fun b hb => h.lt (hp.mem_iff.2 (by simp only [bl, List.flatMap_cons, List.mem_append]; exact .inr hb))
  refine h.step hg.os hg.tape hg.output hg.size (fun k hk hkn => hg.block k hk (fun e => hkn (hp.mem_iff.2 (by simp [bl, Own.blocks, ← e])))) ?_ ?_ ?_
  · intro o hoo
    rcases List.mem_cons.1 hoo with rfl | hoo
    · exact ho
    · refine Own.keep (h.each o (s.perm.mem_iff.2 (by simp [hoo]))) (fun k hk => ?_)
      have hkm : k ∈ bl H' := List.mem_flatMap.2 ⟨o, hoo, hk⟩
      exact hg.block k (hlt' k hkm) (fun e => hdis k e.symm hkm)
  · simp only [bl, List.flatMap_cons, Own.blocks]
    cases hvb : v'.ownBlock with
    | none => simpa using hnd'
    | some g =>
      simp only [Option.toList_some, List.singleton_append, List.nodup_cons]
      refine ⟨fun hm => ?_, hnd'⟩
      rcases hat with e | e | ⟨g', e, hge⟩
      · exact hdis g (e ▸ hvb) hm
      · rw [e] at hvb; cases hvb
      · rw [hvb] at e; injection e with e; subst e; have := hlt' _ hm; omega
  · intro k hk
    simp only [bl, List.flatMap_cons, Own.blocks, List.mem_append, Option.mem_toList] at hk
    rcases hk with hk | hk
    · rcases hat with e | e | ⟨g', e, hge⟩
      · exact .inl (hp.mem_iff.2 (by simp [bl, Own.blocks, ← e, hk]))
      · rw [e] at hk; cases hk
      · rw [hk] at e; injection e with e; subst e; exact .inr hge
    · exact .inl (hp.mem_iff.2 (by simp only [bl, List.flatMap_cons, List.mem_append]; exact .inr hk))

/-- Something new that is owned, nothing else has turned. -/
theorem Holds.new_ (h : Holds w0 D w R H) {v' : Value} {ty : TypeId} {sz n : Nat} {xs : List Value}
    (hg : w.grownBy w' none) (ho : w'.ownsRow 0 ty sz v' n xs) (hat : v'.ownBlock = none ∨ ∃ g, v'.ownBlock = some g ∧ w.heap.size ≤ g) :
    Holds w0 D w' R (.sl v' ty sz n xs :: H) := by
  have h1 : Holds w0 D w R (.sl (.slice none 0 0) ty sz 0 [] :: H) := by
    refine h.step rfl rfl rfl (Nat.le_refl _) (fun _ _ _ => rfl) ?_ (by simpa [bl, Own.blocks, Value.ownBlock] using h.nodup) ?_
    · intro o hoo
      rcases List.mem_cons.1 hoo with rfl | hoo
      · exact ⟨by simp, .inl ⟨rfl, rfl⟩⟩
      · exact h.each o hoo
    · intro b hb; exact .inl (by simpa [bl, Own.blocks, Value.ownBlock] using hb)
  exact h1.put (.here _ _) hg ho (.inr hat)

theorem Holds.nil_ (h : Holds w0 D w R H) (ty : TypeId) (sz : Nat) : Holds w0 D w R (.sl (.slice none 0 0) ty sz 0 [] :: H) :=
  h.new_ (World.grownBy.refl w _) ⟨by simp, .inl ⟨rfl, rfl⟩⟩ (.inl rfl)

/-! ### Calls -/
/-- What a call does, told of what it owns and reads alone. -/
def CallsA (P : Program) (g : FuncId) (args : Array Value) (R : List Ro) (H : List Own) (T : Value → List Own → Prop) : Prop :=
  ∀ w, Holds w (bl H) w R H → Calls P g args w fun e w' => ∃ v H', e = .returned v ∧ T v H' ∧ Holds w (bl H) w' R H'

/-- Pre of a call: some of what is owned; read: what the caller reads, or what it owns and does not hand over. -/
inductive Reads1 (w : World) (R : List Ro) (Hr : List Own) : Ro → Prop
  | ro {r : Ro} (h : r ∈ R) : Reads1 w R Hr r
  | own {v : Value} {ty : TypeId} {sz n : Nat} {xs : List Value} {A : Option Addr} {c : Nat} (h : Own.sl (.slice A n c) ty sz n xs ∈ Hr) : Reads1 w R Hr ⟨A, sz, n, xs, none⟩
  | none_ {A : Option Addr} {sz : Nat} : Reads1 w R Hr ⟨A, sz, 0, [], none⟩
  | fz {g m : Nat} {ty : TypeId} {xs ys : List Value} (h : Own.fz g ty xs ∈ Hr) (hy : ys.length = m) (hx : ∀ (j : Nat) (u : Value), ys[j]? = some u → xs[j]? = some u) : Reads1 w R Hr ⟨some ⟨g, 0, none⟩, 1, m, ys, none⟩
  | roSub {r : Ro} {k m : Nat} (h : r ∈ R) (hkm : k + m ≤ r.n) : Reads1 w R Hr ⟨r.a.map (·.add (k * r.sz)), r.sz, m, (r.xs.drop (k * r.sz)).take (m * r.sz), none⟩
  | ownSub {g : Nat} {ty : TypeId} {sz n : Nat} {xs : List Value} {c k m : Nat} (h : Own.sl (.slice (some ⟨g, 0, none⟩) n c) ty sz n xs ∈ Hr) (hkm : k + m ≤ n) :
      Reads1 w R Hr ⟨some ((⟨g, 0, none⟩ : Addr).add (k * sz)), sz, m, (xs.drop (k * sz)).take (m * sz), none⟩

theorem add_block (a : Addr) (k : Nat) : (a.add k).block = a.block := by unfold Addr.add; split <;> rfl
theorem add_add (a : Addr) (i j : Nat) : (a.add i).add j = a.add (i + j) := by
  unfold Addr.add
  by_cases hi : i = 0 <;> by_cases hj : j = 0 <;> simp [hi, hj, Nat.add_assoc]
theorem cut_at_ {xs : List Value} {k m j : Nat} {u : Value} (h : ((xs.drop k).take m)[j]? = some u) : xs[k + j]? = some u := by
  rw [List.getElem?_take] at h
  split at h
  · rwa [List.getElem?_drop] at h
  · cases h
theorem cut_len {xs : List Value} {sz n k m : Nat} (h : xs.length = n * sz) (hkm : k + m ≤ n) : ((xs.drop (k * sz)).take (m * sz)).length = m * sz := by
  rw [List.length_take, List.length_drop, h, ← Nat.sub_mul]
  exact Nat.min_eq_left (Nat.mul_le_mul_right _ (by omega))

theorem Holds.pre {Hf Hr : List Own} {Re : List Ro} (h : Holds w0 D w R (Hf ++ Hr)) (hr : ∀ r ∈ Re, Reads1 w R Hr r) : Holds w (bl Hf) w Re Hf := by
  have hnd := h.nodup
  rw [bl, List.flatMap_append] at hnd
  obtain ⟨n1, n2, n3⟩ := List.nodup_append.1 hnd
  refine ⟨rfl, rfl, rfl, Nat.le_refl _, fun o ho => h.each o (List.mem_append_left _ ho), n1, fun b hb => .inl hb, fun _ _ _ => rfl, fun r hrr => ?_⟩
  cases hr r hrr with
  | ro hm =>
    obtain ⟨h1, h2⟩ := h.ro r hm
    exact ⟨h1, fun hn ad ha hb => h2 hn ad ha (by rw [bl, List.flatMap_append]; exact List.mem_append_left _ hb)⟩
  | @own v ty sz n xs A c hm =>
    have ho : w.ownsRow 0 ty sz (.slice A n c) n xs := h.each _ (List.mem_append_right _ hm)
    refine ⟨⟨⟨ho.1, nofun⟩, fun hn => ?_⟩, fun hn ad ha hb => ?_⟩
    · rcases ho.2 with ⟨hv, h0⟩ | ⟨g, cap, cur, hv, _, hg, r1, r2, r3, r4⟩
      · simp only at hn; omega
      · injection hv with e1 e2 e3
        refine ⟨⟨g, 0, none⟩, e1, Own.lt (o := .sl (.slice A n c) ty sz n xs) ho (by simp [Own.blocks, Value.ownBlock, e1]), ?_⟩
        exact ho.cells (g := g) (by simp [Value.ownBlock, e1])
    · refine n3 ad.block hb ad.block (List.mem_flatMap.2 ⟨_, hm, ?_⟩) rfl
      simp only at ha
      simp [Own.blocks, Value.ownBlock, ha]
  | none_ => exact ⟨⟨⟨by simp, nofun⟩, fun hn => absurd hn (by simp)⟩, fun hn => absurd hn (by simp)⟩
  | @fz g m ty xs ys hm hy hx =>
    obtain ⟨cs, fr, hg, hc⟩ := h.each _ (List.mem_append_right _ hm)
    have hlt : g < w.heap.size := by
      rcases Nat.lt_or_ge g w.heap.size with h' | h'
      · exact h'
      · rw [Array.getElem?_eq_none h'] at hg; cases hg
    refine ⟨⟨⟨by simpa using hy, nofun⟩, fun hn => ⟨_, rfl, hlt, fun j u hu => ?_⟩⟩, fun hn ad ha hb => ?_⟩
    · have := hc j u (hx j u hu)
      rw [Addr.add_lit, Nat.zero_add]
      simp [World.cell?, hg, this]
    · simp only [Option.some.injEq] at ha
      rw [← ha] at hb
      exact n3 g hb g (List.mem_flatMap.2 ⟨_, hm, by simp [Own.blocks]⟩) rfl
  | @roSub r k m hm hkm =>
    obtain ⟨h1, h2⟩ := h.ro r hm
    refine ⟨⟨⟨cut_len h1.1.1 hkm, nofun⟩, fun hn => ?_⟩, fun hn ad ha hb => ?_⟩
    · simp only at hn
      obtain ⟨ad, ha, hlt, hc⟩ := h1.2 (by omega)
      exact ⟨ad.add (k * r.sz), by simp [ha], by rw [add_block]; exact hlt, fun j u hu => by rw [add_add]; exact hc _ _ (cut_at_ hu)⟩
    · simp only at hn ha
      obtain ⟨ad', ha', _, _⟩ := h1.2 (by omega)
      rw [ha'] at ha
      simp only [Option.map_some, Option.some.injEq] at ha
      rw [← ha, add_block] at hb
      exact h2 (by omega) ad' ha' (by rw [bl, List.flatMap_append]; exact List.mem_append_left _ hb)
  | @ownSub g ty sz n xs c k m hm hkm =>
    have ho : w.ownsRow 0 ty sz (.slice (some ⟨g, 0, none⟩) n c) n xs := h.each _ (List.mem_append_right _ hm)
    have hlt : g < w.heap.size := Own.lt (o := .sl (.slice (some ⟨g, 0, none⟩) n c) ty sz n xs) ho (by simp [Own.blocks, Value.ownBlock])
    refine ⟨⟨⟨cut_len ho.1 hkm, nofun⟩, fun hn => ⟨_, rfl, by rw [add_block]; exact hlt, fun j u hu => ?_⟩⟩, fun hn ad ha hb => ?_⟩
    · rw [add_add]
      exact ho.cells (g := g) (by simp [Value.ownBlock]) _ _ (cut_at_ hu)
    · simp only [Option.some.injEq] at ha
      rw [← ha, add_block] at hb
      exact n3 g hb g (List.mem_flatMap.2 ⟨_, hm, by simp [Own.blocks, Value.ownBlock]⟩) rfl

theorem Holds.post {Hf Hr Hf' : List Own} {Re : List Ro} (h : Holds w0 D w R (Hf ++ Hr)) (hw : Holds w (bl Hf) w' Re Hf') : Holds w0 D w' R (Hf' ++ Hr) := by
  have hnd := h.nodup
  rw [bl, List.flatMap_append] at hnd
  obtain ⟨n1, n2, n3⟩ := List.nodup_append.1 hnd
  have hlr : ∀ b ∈ bl Hr, b < w.heap.size := fun b hb => h.lt (by rw [bl, List.flatMap_append]; exact List.mem_append_right _ hb)
  refine h.step hw.os hw.tape hw.output hw.size (fun b hb hbn => hw.frame b hb (fun hm => hbn (by rw [bl, List.flatMap_append]; exact List.mem_append_left _ hm))) ?_ ?_ ?_
  · intro o ho
    rcases List.mem_append.1 ho with ho | ho
    · exact hw.each o ho
    · refine Own.keep (h.each o (List.mem_append_right _ ho)) (fun b hb => ?_)
      have hm : b ∈ bl Hr := List.mem_flatMap.2 ⟨o, ho, hb⟩
      exact hw.frame b (hlr b hm) (fun hf => n3 b hf b hm rfl)
  · rw [bl, List.flatMap_append, List.nodup_append]
    refine ⟨hw.nodup, n2, ?_⟩
    rintro b hb c hc rfl
    rcases hw.fresh b hb with hf | hf
    · exact n3 b hf b hc rfl
    · have := hlr b hc; omega
  · intro b hb
    rw [bl, List.flatMap_append] at hb
    rcases List.mem_append.1 hb with hb | hb
    · rcases hw.fresh b hb with hf | hf
      · exact .inl (by rw [bl, List.flatMap_append]; exact List.mem_append_left _ hf)
      · exact .inr hf
    · exact .inl (by rw [bl, List.flatMap_append]; exact List.mem_append_right _ hb)

theorem CallsA.use {P : Program} {g : FuncId} {args : Array Value} {Re : List Ro} {Hf Hr : List Own} {T : Value → List Own → Prop} (c : CallsA P g args Re Hf T)
    (h : Holds w0 D w R (Hf ++ Hr)) (hr : ∀ r ∈ Re, Reads1 w R Hr r) :
    Calls P g args w fun e w' => ∃ v H', e = .returned v ∧ T v H' ∧ Holds w0 D w' R (H' ++ Hr) :=
  (c w (h.pre hr)).mono fun _ _ ⟨v, H', he, ht, hw⟩ => ⟨v, H', he, ht, h.post hw⟩

end
end Go.Hr

/- Rules for the operations of a region, over the words of Ka. -/
namespace Go.Hr
open Go Go.RowKit

section
variable {P : Program} {ops rest : List Oper} {Q : Exit → Act → World → Prop} {n : Nat} {l : List (Nat × Value)} {f : Nat → Value} {w w' w0 : World}
  {d : Nat} {ty : TypeId} {pos : String} {aft : Array Edge} {D : List Nat} {R : List Ro} {H H' : List Own}

theorem r_val {o : Oper} {v : Value} (hd : o.dst = some d) (hg : o.guard = none) (h : (execOp (ev n l f) o).run P w = .ok (.value v) w')
    (k : wpList P ops.toArray Q rest (A n ((d, v) :: l) f) w') : wpList P ops.toArray Q (o :: rest) (A n l f) w :=
  wpList_plain hg fun K hK => by
    unfold Oper.wp
    rw [A_eval, h]
    simp only [Oper.upon, hd, A_put]
    exact hK _ _ k
theorem r_skip {o : Oper} (hd : o.dst = none) (hg : o.guard = none) (h : (execOp (ev n l f) o).run P w = .ok .skip w')
    (k : wpList P ops.toArray Q rest (A n l f) w') : wpList P ops.toArray Q (o :: rest) (A n l f) w :=
  wpList_plain hg fun K hK => by
    unfold Oper.wp
    rw [A_eval, h]
    simp only [Oper.upon, hd]
    exact hK _ _ k

def dstOf (ops : List Oper) (j : Nat) : Nat := (((ops[j]?).bind (·.dst))).getD 0
/-- A guard: what the operation that it names yielded. -/
theorem yielded_A {j e : Nat} {b : Bool} (hj : (ops[j]?).bind (·.dst) = some e) (hn : Nat.blt e n = true) (hb : lk l f e = .bool b) :
    yielded ops.toArray (A n l f).tmps j = some b := by
  unfold yielded
  have : (ops.toArray[j]?).bind (·.dst) = some e := by simpa using hj
  rw [this]
  simp only [Option.bind_some, A_tmp n l f e hn, hb]
theorem r_take {op : Op} {dst : Option Nat} {j e : Nat} {b : Bool} (hj : (ops[j]?).bind (·.dst) = some e) (hn : Nat.blt e n = true) (hb : lk l f e = .bool b)
    (k : wpList P ops.toArray Q (⟨dst, op, ty, pos, aft, none⟩ :: rest) (A n l f) w) :
    wpList P ops.toArray Q (⟨dst, op, ty, pos, aft, some (j, b)⟩ :: rest) (A n l f) w := by
  have hy := yielded_A (l := l) (f := f) hj hn hb
  have hw : Region.wanted ⟨dst, op, ty, pos, aft, some (j, b)⟩ (yielded ops.toArray (A n l f).tmps) = true := by simp [Region.wanted, hy]
  have hw' : Region.wanted ⟨dst, op, ty, pos, aft, none⟩ (yielded ops.toArray (A n l f).tmps) = true := rfl
  unfold wpList at k ⊢
  rw [if_pos hw'] at k
  rw [if_pos hw]
  exact k
theorem r_pass {op : Op} {j e : Nat} {b b' : Bool} (hj : (ops[j]?).bind (·.dst) = some e) (hn : Nat.blt e n = true) (hb : lk l f e = .bool b) (hne : b ≠ b')
    (k : wpList P ops.toArray Q rest (A n ((d, undef) :: l) f) w) :
    wpList P ops.toArray Q (⟨some d, op, ty, pos, aft, some (j, b')⟩ :: rest) (A n l f) w := by
  have hy := yielded_A (l := l) (f := f) hj hn hb
  have hw : ¬ Region.wanted ⟨some d, op, ty, pos, aft, some (j, b')⟩ (yielded ops.toArray (A n l f).tmps) = true := by
    simp only [Region.wanted, hy]; intro h; exact hne (by simpa using h)
  unfold wpList
  rw [if_neg hw, A_put]
  exact k
theorem r_nil (k : Q .normal (A n l f) w) : wpList P ops.toArray Q [] (A n l f) w := k

/-! ### values -/
theorem r_move {x : Operand} {v : Value} (hx : ev n l f x = v) (k : wpList P ops.toArray Q rest (A n ((d, v) :: l) f) w) :
    wpList P ops.toArray Q (⟨some d, .move x, ty, pos, aft, none⟩ :: rest) (A n l f) w :=
  r_val rfl rfl (by simp [execOp, hx]) k
theorem r_assign {x : Operand} {v : Value} (hx : ev n l f x = v) (k : wpList P ops.toArray Q rest (A n ((d, v) :: l) f) w) :
    wpList P ops.toArray Q (⟨some d, .assign x, ty, pos, aft, none⟩ :: rest) (A n l f) w :=
  r_val rfl rfl (by simp [execOp, hx]) k
theorem r_pick_t {c x y : Operand} {b : Bool} {v : Value} (hc : ev n l f c = .bool b) (hb : b = true) (hx : ev n l f x = v) (k : wpList P ops.toArray Q rest (A n ((d, v) :: l) f) w) :
    wpList P ops.toArray Q (⟨some d, .pick c x y, ty, pos, aft, none⟩ :: rest) (A n l f) w :=
  r_val rfl rfl (by subst hb; simp [execOp, hc, hx, asBool]) k
theorem r_pick_f {c x y : Operand} {b : Bool} {v : Value} (hc : ev n l f c = .bool b) (hb : b = false) (hx : ev n l f y = v) (k : wpList P ops.toArray Q rest (A n ((d, v) :: l) f) w) :
    wpList P ops.toArray Q (⟨some d, .pick c x y, ty, pos, aft, none⟩ :: rest) (A n l f) w :=
  r_val rfl rfl (by subst hb; simp [execOp, hc, hx, asBool]) k
theorem r_extract {x : Operand} {i : Nat} {vs : Array Value} {v : Value} (hx : ev n l f x = .tuple vs) (hv : vs[i]? = some v) (k : wpList P ops.toArray Q rest (A n ((d, v) :: l) f) w) :
    wpList P ops.toArray Q (⟨some d, .extract x i, ty, pos, aft, none⟩ :: rest) (A n l f) w :=
  r_val rfl rfl (by simp [execOp, hx, Instr.extract, hv]) k
theorem r_nilCheck {x : Operand} {a : Addr} (hx : ev n l f x = .pointer (some a)) (k : wpList P ops.toArray Q rest (A n ((d, .pointer (some a)) :: l) f) w) :
    wpList P ops.toArray Q (⟨some d, .nilCheck x, ty, pos, aft, none⟩ :: rest) (A n l f) w :=
  r_val rfl rfl (by simp [execOp, hx]) k
theorem r_not {x : Operand} {t : TypeId} {b : Bool} (hx : ev n l f x = .bool b) (k : wpList P ops.toArray Q rest (A n ((d, .bool (!b)) :: l) f) w) :
    wpList P ops.toArray Q (⟨some d, .unOp .not t x, ty, pos, aft, none⟩ :: rest) (A n l f) w :=
  r_val rfl rfl (by simp [execOp, hx, Op.unary]) k
theorem r_makeInterface {x : Operand} {t : TypeId} {v : Value} {td : TypeDesc} (ht : P.underlying t = some td) (hni : ∀ ms, td ≠ .interface ms) (hx : ev n l f x = v) (k : wpList P ops.toArray Q rest (A n ((d, .iface t v) :: l) f) w) :
    wpList P ops.toArray Q (⟨some d, .makeInterface t x, ty, pos, aft, none⟩ :: rest) (A n l f) w :=
  r_val rfl rfl (by
    have hr : (Instr.makeInterface t v).run P w = .ok (.iface t v) w := by
      simp only [Instr.makeInterface, Sem.run_bind, run_underlying ht, Result.andThen_ok]
      cases td <;> first | rfl | exact absurd rfl (hni _)
    simp only [execOp, hx, Sem.run_bind, hr]; simp) k
theorem r_makeFunc {g : Fn} {fs cs : Array Operand} {vs us : Array Value} (hf : fs.map (ev n l f) = vs) (hc : cs.map (ev n l f) = us) (k : wpList P ops.toArray Q rest (A n ((d, .func g vs us) :: l) f) w) :
    wpList P ops.toArray Q (⟨some d, .makeFunc g fs cs, ty, pos, aft, none⟩ :: rest) (A n l f) w :=
  r_val rfl rfl (by simp [execOp, Instr.makeFunc, hf, hc]) k

/-! ### ints -/
section
variable {x y : Operand} {t u : TypeId} {a b : Int} {K : IntKind}
theorem r_add (hx : ev n l f x = .int .i64 a) (hy : ev n l f y = .int .i64 b) (hr : -9223372036854775808 ≤ a + b ∧ a + b ≤ 9223372036854775807)
    (k : wpList P ops.toArray Q rest (A n ((d, .int .i64 (a + b)) :: l) f) w) :
    wpList P ops.toArray Q (⟨some d, .binOp .add t x y u, ty, pos, aft, none⟩ :: rest) (A n l f) w :=
  r_val rfl rfl (by simp [execOp, hx, hy, eqGuard, binOp, Op.intArith, IntWalk.i64_in _ hr]) k
theorem r_sub (hx : ev n l f x = .int .i64 a) (hy : ev n l f y = .int .i64 b) (hr : -9223372036854775808 ≤ a - b ∧ a - b ≤ 9223372036854775807)
    (k : wpList P ops.toArray Q rest (A n ((d, .int .i64 (a - b)) :: l) f) w) :
    wpList P ops.toArray Q (⟨some d, .binOp .sub t x y u, ty, pos, aft, none⟩ :: rest) (A n l f) w :=
  r_val rfl rfl (by simp [execOp, hx, hy, eqGuard, binOp, Op.intArith, IntWalk.i64_in _ hr]) k
theorem r_mul (hx : ev n l f x = .int .i64 a) (hy : ev n l f y = .int .i64 b) (hr : -9223372036854775808 ≤ a * b ∧ a * b ≤ 9223372036854775807)
    (k : wpList P ops.toArray Q rest (A n ((d, .int .i64 (a * b)) :: l) f) w) :
    wpList P ops.toArray Q (⟨some d, .binOp .mul t x y u, ty, pos, aft, none⟩ :: rest) (A n l f) w :=
  r_val rfl rfl (by simp [execOp, hx, hy, eqGuard, binOp, Op.intArith, IntWalk.i64_in _ hr]) k
theorem r_eq (hx : ev n l f x = .int K a) (hy : ev n l f y = .int K b) (k : wpList P ops.toArray Q rest (A n ((d, .bool (decide (a = b))) :: l) f) w) :
    wpList P ops.toArray Q (⟨some d, .binOp .eql t x y u, ty, pos, aft, none⟩ :: rest) (A n l f) w :=
  r_val rfl rfl (by
    have : (a == b) = decide (a = b) := by by_cases h : a = b <;> simp [h]
    simp [execOp, hx, hy, eqGuard, binOp, Op.intCmp, this]) k
theorem r_ne (hx : ev n l f x = .int K a) (hy : ev n l f y = .int K b) (k : wpList P ops.toArray Q rest (A n ((d, .bool (decide (a ≠ b))) :: l) f) w) :
    wpList P ops.toArray Q (⟨some d, .binOp .neq t x y u, ty, pos, aft, none⟩ :: rest) (A n l f) w :=
  r_val rfl rfl (by
    have : (a != b) = decide (a ≠ b) := by by_cases h : a = b <;> simp [h]
    simp only [execOp, hx, hy, eqGuard, binOp, Op.intCmp, this]; simp) k
theorem r_lt (hx : ev n l f x = .int K a) (hy : ev n l f y = .int K b) (k : wpList P ops.toArray Q rest (A n ((d, .bool (decide (a < b))) :: l) f) w) :
    wpList P ops.toArray Q (⟨some d, .binOp .lss t x y u, ty, pos, aft, none⟩ :: rest) (A n l f) w :=
  r_val rfl rfl (by simp [execOp, hx, hy, eqGuard, binOp, Op.intCmp]) k
theorem r_le (hx : ev n l f x = .int K a) (hy : ev n l f y = .int K b) (k : wpList P ops.toArray Q rest (A n ((d, .bool (decide (a ≤ b))) :: l) f) w) :
    wpList P ops.toArray Q (⟨some d, .binOp .leq t x y u, ty, pos, aft, none⟩ :: rest) (A n l f) w :=
  r_val rfl rfl (by simp [execOp, hx, hy, eqGuard, binOp, Op.intCmp]) k
theorem r_gt (hx : ev n l f x = .int K a) (hy : ev n l f y = .int K b) (k : wpList P ops.toArray Q rest (A n ((d, .bool (decide (b < a))) :: l) f) w) :
    wpList P ops.toArray Q (⟨some d, .binOp .gtr t x y u, ty, pos, aft, none⟩ :: rest) (A n l f) w :=
  r_val rfl rfl (by simp [execOp, hx, hy, eqGuard, binOp, Op.intCmp]) k
theorem r_ge (hx : ev n l f x = .int K a) (hy : ev n l f y = .int K b) (k : wpList P ops.toArray Q rest (A n ((d, .bool (decide (b ≤ a))) :: l) f) w) :
    wpList P ops.toArray Q (⟨some d, .binOp .geq t x y u, ty, pos, aft, none⟩ :: rest) (A n l f) w :=
  r_val rfl rfl (by simp [execOp, hx, hy, eqGuard, binOp, Op.intCmp]) k
end
/-! ### bools, texts, nil -/
section
variable {x y : Operand} {t u : TypeId} {a b : Bool} {s r : ByteArray}
theorem r_eqb (ht : P.underlying t = some .bool) (hx : ev n l f x = .bool a) (hy : ev n l f y = .bool b) (k : wpList P ops.toArray Q rest (A n ((d, .bool (a == b)) :: l) f) w) :
    wpList P ops.toArray Q (⟨some d, .binOp .eql t x y u, ty, pos, aft, none⟩ :: rest) (A n l f) w :=
  r_val rfl rfl (by have := Go.run_eql_bool (P := P) w t a b ht; simp [execOp, hx, hy, eqGuard, this]) k
theorem r_neb (ht : P.underlying t = some .bool) (hx : ev n l f x = .bool a) (hy : ev n l f y = .bool b) (k : wpList P ops.toArray Q rest (A n ((d, .bool (!(a == b))) :: l) f) w) :
    wpList P ops.toArray Q (⟨some d, .binOp .neq t x y u, ty, pos, aft, none⟩ :: rest) (A n l f) w :=
  r_val rfl rfl (by have := Go.run_neq_bool (P := P) w t a b ht; simp only [execOp, hx, hy, eqGuard, Sem.run_bind]; simp [this]) k
abbrev mkS (l : List UInt8) : ByteArray := ⟨l.toArray⟩
section
variable {la lb : List UInt8}
theorem r_eqs (hx : ev n l f x = .string ⟨la.toArray⟩) (hy : ev n l f y = .string ⟨lb.toArray⟩) (k : wpList P ops.toArray Q rest (A n ((d, .bool (decide (la = lb))) :: l) f) w) :
    wpList P ops.toArray Q (⟨some d, .binOp .eql t x y u, ty, pos, aft, none⟩ :: rest) (A n l f) w :=
  r_val rfl rfl (by
    have : (la == lb) = decide (la = lb) := by by_cases h : la = lb <;> simp [h]
    simp [execOp, hx, hy, eqGuard, binOp, Op.stringOp, this]) k
theorem r_nes (hx : ev n l f x = .string ⟨la.toArray⟩) (hy : ev n l f y = .string ⟨lb.toArray⟩) (k : wpList P ops.toArray Q rest (A n ((d, .bool (decide (la ≠ lb))) :: l) f) w) :
    wpList P ops.toArray Q (⟨some d, .binOp .neq t x y u, ty, pos, aft, none⟩ :: rest) (A n l f) w :=
  r_val rfl rfl (by
    have : (la == lb) = decide (la = lb) := by by_cases h : la = lb <;> simp [h]
    simp [execOp, hx, hy, eqGuard, binOp, Op.stringOp, this]) k
theorem r_cat (hx : ev n l f x = .string ⟨la.toArray⟩) (hy : ev n l f y = .string ⟨lb.toArray⟩) (hr : la.length + lb.length ≤ 9223372036854775807)
    (k : wpList P ops.toArray Q rest (A n ((d, .string ⟨(la ++ lb).toArray⟩) :: l) f) w) :
    wpList P ops.toArray Q (⟨some d, .binOp .add t x y u, ty, pos, aft, none⟩ :: rest) (A n l f) w :=
  r_val rfl rfl (by
    have h : ¬ ((((mkS la).size + (mkS lb).size : Nat) : Int) > IntKind.i64.max) := by
      have : IntKind.i64.max = 9223372036854775807 := by decide
      have h1 : (mkS la).size = la.length := by simp [ByteArray.size]
      have h2 : (mkS lb).size = lb.length := by simp [ByteArray.size]
      omega
    have e : mkS la ++ mkS lb = mkS (la ++ lb) := by
      apply ByteArray.ext
      simp
    simp only [execOp, hx, hy, eqGuard, binOp, Op.stringOp, if_neg h, e]; simp) k
theorem size_mk : (mkS la).size = la.length := by simp [ByteArray.size]
theorem r_index {i : Int} {K : IntKind} (ht : P.underlying t = some .string) (hx : ev n l f x = .string ⟨la.toArray⟩) (hy : ev n l f y = .int K i) (hr : 0 ≤ i ∧ i < la.length)
    (k : wpList P ops.toArray Q rest (A n ((d, .int .u8 ((la.getD i.toNat 0).toNat : Int)) :: l) f) w) :
    wpList P ops.toArray Q (⟨some d, .index t x y, ty, pos, aft, none⟩ :: rest) (A n l f) w :=
  r_val rfl rfl (by
    have hlt : i.toNat < la.length := by omega
    have hg : (mkS la)[i.toNat]? = some (la.getD i.toNat 0) := by
      have h1 : i.toNat < (mkS la).size := by rw [size_mk]; exact hlt
      rw [getElem?_pos (mkS la) i.toNat h1]
      have : (mkS la)[i.toNat] = la[i.toNat] := rfl
      rw [this]
      simp [List.getD, hlt]
    simp only [execOp, hx, hy, Instr.index, asIntOf, Sem.run_bind, Sem.run_pure, Result.andThen_ok, run_underlying ht, if_pos hr.1, hg]) k
theorem extract_mk (a b : Nat) : (mkS la).extract a b = mkS ((la.drop a).take (b - a)) := ByteArray.extract_mk la a b
theorem r_slice_lh {i j : Int} {K K' : IntKind} {lo hi : Operand} (ht : P.underlying t = some .string) (hx : ev n l f x = .string ⟨la.toArray⟩) (hlo : ev n l f lo = .int K i) (hhi : ev n l f hi = .int K' j) (hr : 0 ≤ i ∧ i ≤ j ∧ j ≤ la.length)
    (k : wpList P ops.toArray Q rest (A n ((d, .string ⟨((la.drop i.toNat).take (j.toNat - i.toNat)).toArray⟩) :: l) f) w) :
    wpList P ops.toArray Q (⟨some d, .slice t x (some lo) (some hi) none, ty, pos, aft, none⟩ :: rest) (A n l f) w :=
  r_val rfl rfl (by
    have := run_slice_string (P := P) w t (mkS la) K K' i j ht hr.1 hr.2.1 (by rw [size_mk]; exact hr.2.2)
    rw [extract_mk] at this
    simp [execOp, hx, hlo, hhi, run_sliceAt_string (P := P) w t _ _ _ _ ht, this]) k
theorem r_slice_h {j : Int} {K' : IntKind} {hi : Operand} (ht : P.underlying t = some .string) (hx : ev n l f x = .string ⟨la.toArray⟩) (hhi : ev n l f hi = .int K' j) (hr : 0 ≤ j ∧ j ≤ la.length)
    (k : wpList P ops.toArray Q rest (A n ((d, .string ⟨(la.take j.toNat).toArray⟩) :: l) f) w) :
    wpList P ops.toArray Q (⟨some d, .slice t x none (some hi) none, ty, pos, aft, none⟩ :: rest) (A n l f) w :=
  r_val rfl rfl (by
    have := run_slice_string_h (P := P) w t (mkS la) ht K' j hr.1 (by rw [size_mk]; exact hr.2)
    rw [extract_mk] at this
    simp only [List.drop_zero, Nat.sub_zero] at this
    simp [execOp, hx, hhi, run_sliceAt_string (P := P) w t _ _ _ _ ht, this]) k
theorem r_slice_l {i : Int} {K : IntKind} {lo : Operand} (ht : P.underlying t = some .string) (hx : ev n l f x = .string ⟨la.toArray⟩) (hlo : ev n l f lo = .int K i) (hr : 0 ≤ i ∧ i ≤ la.length)
    (k : wpList P ops.toArray Q rest (A n ((d, .string ⟨(la.drop i.toNat).toArray⟩) :: l) f) w) :
    wpList P ops.toArray Q (⟨some d, .slice t x (some lo) none none, ty, pos, aft, none⟩ :: rest) (A n l f) w :=
  r_val rfl rfl (by
    have := run_slice_string_l (P := P) w t (mkS la) ht K i hr.1 (by rw [size_mk]; exact hr.2)
    rw [extract_mk, size_mk, List.take_of_length_le (by simp)] at this
    simp [execOp, hx, hlo, run_sliceAt_string (P := P) w t _ _ _ _ ht, this]) k
theorem r_len_s (ht : P.underlying t = some .string) {xo : Operand} (hx : ev n l f xo = .string ⟨la.toArray⟩) (k : wpList P ops.toArray Q rest (A n ((d, .int .i64 (la.length : Int)) :: l) f) w) :
    wpList P ops.toArray Q (⟨some d, .call ⟨.builtin .len, #[xo], #[t]⟩, ty, pos, aft, none⟩ :: rest) (A n l f) w :=
  r_val rfl rfl (by
    have := run_len_string (P := P) w t ty (mkS la) ht
    rw [size_mk] at this
    simp [execOp, resolve, invoke, builtin, hx, this, goInt]) k
end
end

/-! ### nil -/
section
variable {x : Operand} {t u tx : TypeId} {v : Value} {p : Option Addr}
theorem r_eqNil_held (ht : P.underlying t = some (.interface (P.methodsAt t))) (hx : ev n l f x = .iface tx v) (k : wpList P ops.toArray Q rest (A n ((d, .bool false) :: l) f) w) :
    wpList P ops.toArray Q (⟨some d, .binOp .eql t x (.const .nilIface) u, ty, pos, aft, none⟩ :: rest) (A n l f) w :=
  r_val rfl rfl (by have := run_eql_held_nil (P := P) w t tx v ht; have hc : ev n l f (.const .nilIface) = .nilIface := rfl; simp only [execOp, hx, hc, eqGuard, Sem.run_bind]; simp [this]) k
theorem r_eqNil_nil (ht : P.underlying t = some (.interface (P.methodsAt t))) (hx : ev n l f x = .nilIface) (k : wpList P ops.toArray Q rest (A n ((d, .bool true) :: l) f) w) :
    wpList P ops.toArray Q (⟨some d, .binOp .eql t x (.const .nilIface) u, ty, pos, aft, none⟩ :: rest) (A n l f) w :=
  r_val rfl rfl (by have := run_eql_nil_nil (P := P) w t ht; have hc : ev n l f (.const .nilIface) = .nilIface := rfl; simp only [execOp, hx, hc, eqGuard, Sem.run_bind]; simp [this]) k
theorem r_neNil_held (ht : P.underlying t = some (.interface (P.methodsAt t))) (hx : ev n l f x = .iface tx v) (k : wpList P ops.toArray Q rest (A n ((d, .bool true) :: l) f) w) :
    wpList P ops.toArray Q (⟨some d, .binOp .neq t x (.const .nilIface) u, ty, pos, aft, none⟩ :: rest) (A n l f) w :=
  r_val rfl rfl (by have := run_neq_held_nil (P := P) w t tx v ht; have hc : ev n l f (.const .nilIface) = .nilIface := rfl; simp only [execOp, hx, hc, eqGuard, Sem.run_bind]; simp [this]) k
theorem r_neNil_nil (ht : P.underlying t = some (.interface (P.methodsAt t))) (hx : ev n l f x = .nilIface) (k : wpList P ops.toArray Q rest (A n ((d, .bool false) :: l) f) w) :
    wpList P ops.toArray Q (⟨some d, .binOp .neq t x (.const .nilIface) u, ty, pos, aft, none⟩ :: rest) (A n l f) w :=
  r_val rfl rfl (by have := run_neq_nil_nil (P := P) w t ht; have hc : ev n l f (.const .nilIface) = .nilIface := rfl; simp only [execOp, hx, hc, eqGuard, Sem.run_bind]; simp [this]) k
theorem r_eqPtrNil (ht : P.underlying t = some (.pointer (P.pointee t))) (hx : ev n l f x = .pointer p) (k : wpList P ops.toArray Q rest (A n ((d, .bool p.isNone) :: l) f) w) :
    wpList P ops.toArray Q (⟨some d, .binOp .eql t x (.const (.pointer none)) u, ty, pos, aft, none⟩ :: rest) (A n l f) w :=
  r_val rfl rfl (by have := run_eql_pointer_nil (P := P) w t p ht; have hc : ev n l f (.const (.pointer none)) = .pointer none := rfl; simp only [execOp, hx, hc, eqGuard, Sem.run_bind]; simp [this]) k
theorem r_nePtrNil (ht : P.underlying t = some (.pointer (P.pointee t))) (hx : ev n l f x = .pointer p) (k : wpList P ops.toArray Q rest (A n ((d, .bool (!p.isNone)) :: l) f) w) :
    wpList P ops.toArray Q (⟨some d, .binOp .neq t x (.const (.pointer none)) u, ty, pos, aft, none⟩ :: rest) (A n l f) w :=
  r_val rfl rfl (by have := run_neq_pointer_nil (P := P) w t p ht; have hc : ev n l f (.const (.pointer none)) = .pointer none := rfl; simp only [execOp, hx, hc, eqGuard, Sem.run_bind]; simp [this]) k
end

/-! ### what types are -/
abbrev Info (P : Program) (t : TypeId) (z : Value) (sz by_ : Nat) : Prop := (P.info? t).map (fun i => (i.zero, i.size, i.bytes)) = some (some z, sz, by_)
theorem run_zero {t : TypeId} {z : Value} {sz b : Nat} (h : Info P t z sz b) : (zeroValue t).run P w = .ok z w := by
  obtain ⟨i, hi, hz, _, _⟩ := info_parts h
  simp [zeroValue, typeInfo, hi, hz]
theorem run_size {t : TypeId} {z : Value} {sz b : Nat} (h : Info P t z sz b) : (sizeOf t).run P w = .ok sz w := by
  obtain ⟨i, hi, _, hs, _⟩ := info_parts h
  simp [sizeOf, typeInfo, hi, hs]
def flatD : TypeDesc → Bool
  | .struct _ | .array _ _ => false
  | _ => true
theorem run_isAgg {t : TypeId} {td : TypeDesc} (h : P.underlying t = some td) : (isAgg t).run P w = .ok (!flatD td) w := by
  simp only [isAgg, Sem.run_bind, run_underlying h, Result.andThen_ok]
  cases td <;> rfl

/-! ### new memory -/
section
variable {x : Operand} {t : TypeId} {z v : Value} {sz b : Nat}
theorem r_alloc (hi : Info P t z sz b) (hH : Holds w0 D w R H) (k : ∀ g w', w0.heap.size ≤ g → Holds w0 D w' R (.pt g t z.cells.toList :: H) → wpList P ops.toArray Q rest (A n ((d, .pointer (some ⟨g, 0, none⟩)) :: l) f) w') :
    wpList P ops.toArray Q (⟨some d, .alloc t, ty, pos, aft, none⟩ :: rest) (A n l f) w :=
  r_val rfl rfl (by simp [execOp, Instr.alloc, run_zero hi, newVar, newRow]; rfl) (k w.heap.size _ hH.size (by simpa using hH.alloc z.cells.toList t))
theorem r_box (hx : ev n l f x = v) (hH : Holds w0 D w R H) (k : ∀ g w', w0.heap.size ≤ g → Holds w0 D w' R (.pt g t v.cells.toList :: H) → wpList P ops.toArray Q rest (A n ((d, .pointer (some ⟨g, 0, none⟩)) :: l) f) w') :
    wpList P ops.toArray Q (⟨some d, .box t x, ty, pos, aft, none⟩ :: rest) (A n l f) w :=
  r_val rfl rfl (by simp [execOp, hx, Instr.box, newVar, newRow]; rfl) (k w.heap.size _ hH.size (by simpa using hH.alloc v.cells.toList t))
end

/-! ### pointers -/
section
variable {x y : Operand} {t bt : TypeId} {z v : Value} {g i m sz by_ : Nat} {cs : List Value} {td : TypeDesc} {vs : List Value}
theorem cell_pt (hH : Holds w0 D w R H) (s : Sel H (.pt g bt cs) H') {i : Nat} {v : Value} (hv : cs[i]? = some v) : w.cell? ⟨g, i, none⟩ = some v := by
  have hb : w.heap[g]? = some (.cells cs.toArray bt (0, 0)) := hH.each _ s.mem
  simp [World.cell?, hb, hv]
theorem frozen_pt (hH : Holds w0 D w R H) (s : Sel H (.pt g bt cs) H') (i : Nat) : w.frozen? ⟨g, i, none⟩ = false := by
  have hb : w.heap[g]? = some (.cells cs.toArray bt (0, 0)) := hH.each _ s.mem
  simp [World.frozen?, hb]
theorem r_load (ht : P.underlying t = some td) (hf : flatD td = true) (hx : ev n l f x = .pointer (some ⟨g, i, none⟩)) (hH : Holds w0 D w R H) (s : Sel H (.pt g bt cs) H') (hv : cs[i]? = some v)
    (k : wpList P ops.toArray Q rest (A n ((d, v) :: l) f) w) :
    wpList P ops.toArray Q (⟨some d, .load t x, ty, pos, aft, none⟩ :: rest) (A n l f) w :=
  r_val rfl rfl (by
    have hc := cell_pt hH s hv
    simp only [execOp, hx, Instr.loadAt, Instr.sureAddr, loadVar, Sem.run_bind, Sem.run_pure, Result.andThen_ok, run_isAgg ht, hf, Bool.not_true, Bool.false_eq_true, if_false, run_load, hc]) k
theorem r_loadA (ht : P.underlying t = some td) (hf : flatD td = false) (hi : Info P t z sz by_) (hx : ev n l f x = .pointer (some ⟨g, i, none⟩)) (hH : Holds w0 D w R H) (s : Sel H (.pt g bt cs) H')
    (hl : vs.length = sz) (hv : ∀ j u, vs[j]? = some u → cs[i + j]? = some u)
    (k : wpList P ops.toArray Q rest (A n ((d, .agg vs.toArray) :: l) f) w) :
    wpList P ops.toArray Q (⟨some d, .load t x, ty, pos, aft, none⟩ :: rest) (A n l f) w :=
  r_val rfl rfl (by
    have hc : ∀ j u, vs[j]? = some u → w.cell? ((⟨g, i, none⟩ : Addr).add j) = some u := fun j u hu => by
      have := cell_pt hH s (hv j u hu)
      simpa [Addr.add_lit] using this
    have hr := run_loadCells_list (P := P) w ⟨g, i, none⟩ vs hc
    rw [hl] at hr
    simp only [execOp, hx, Instr.loadAt, Instr.sureAddr, loadVar, Sem.run_bind, Sem.run_pure, Result.andThen_ok, run_isAgg ht, hf, Bool.not_false, if_true, run_size hi, hr]) k
theorem r_store (hi : Info P t z 1 by_) (hx : ev n l f x = .pointer (some ⟨g, i, none⟩)) (hy : ev n l f y = v) (h1 : v.oneCell' = true) (hH : Holds w0 D w R H) (s : Sel H (.pt g bt cs) H') (hl : i < cs.length)
    (k : ∀ w', Holds w0 D w' R (.pt g bt (cs.set i v) :: H') → wpList P ops.toArray Q rest (A n l f) w') :
    wpList P ops.toArray Q (⟨none, .store t x y, ty, pos, aft, none⟩ :: rest) (A n l f) w :=
  r_skip rfl rfl (by
    have hc := cell_pt hH s (List.getElem?_eq_getElem hl)
    have hfz := frozen_pt hH s i
    have hcs : v.cells = #[v] := by cases v <;> first | rfl | (simp [Value.oneCell'] at h1)
    have hst := run_store P w ⟨g, i, none⟩ v .plain h1
    rw [hc, hfz] at hst
    simp only [Bool.false_eq_true, if_false] at hst
    simp only [execOp, hx, hy, Instr.storeAt, Instr.sureAddr, storeVar, Sem.run_bind, Sem.run_pure, Result.andThen_ok, run_size hi, hcs, List.size_toArray, List.length_singleton, ne_eq, not_true_eq_false, if_false, storeCells, Addr.add, if_true]
    simp [hst]) (k _ (hH.set s v))
theorem cell_sl (hH : Holds w0 D w R H) {sz' nn c : Nat} {xs : List Value} (s : Sel H (.sl (.slice (some ⟨g, 0, none⟩) nn c) bt sz' nn xs) H') {j : Nat} {v : Value} (hv : xs[j]? = some v) : w.cell? ⟨g, j, none⟩ = some v := by
  have ho : w.ownsRow 0 bt sz' (.slice (some ⟨g, 0, none⟩) nn c) nn xs := hH.each _ s.mem
  have := ho.cells (g := g) (by simp [Value.ownBlock]) j v hv
  simpa [Addr.add_lit] using this
/-- A one-cell load out of a slice that is owned. -/
theorem r_loadS {nn c sz' : Nat} {xs : List Value} (ht : P.underlying t = some td) (hf : flatD td = true) (hx : ev n l f x = .pointer (some ((⟨g, 0, none⟩ : Addr).add i))) (hH : Holds w0 D w R H)
    (s : Sel H (.sl (.slice (some ⟨g, 0, none⟩) nn c) bt sz' nn xs) H') (hv : xs[i]? = some v)
    (k : wpList P ops.toArray Q rest (A n ((d, v) :: l) f) w) :
    wpList P ops.toArray Q (⟨some d, .load t x, ty, pos, aft, none⟩ :: rest) (A n l f) w :=
  r_val rfl rfl (by
    have hc := cell_sl hH s hv
    have e : (⟨g, 0, none⟩ : Addr).add i = ⟨g, i, none⟩ := by rw [Addr.add_lit, Nat.zero_add]
    simp only [execOp, hx, e, Instr.loadAt, Instr.sureAddr, loadVar, Sem.run_bind, Sem.run_pure, Result.andThen_ok, run_isAgg ht, hf, Bool.not_true, Bool.false_eq_true, if_false, run_load, hc]) k
/-- The same, a struct. -/
theorem r_loadSA {nn c sz' : Nat} {xs : List Value} (ht : P.underlying t = some td) (hf : flatD td = false) (hi : Info P t z sz by_) (hx : ev n l f x = .pointer (some ((⟨g, 0, none⟩ : Addr).add i))) (hH : Holds w0 D w R H)
    (s : Sel H (.sl (.slice (some ⟨g, 0, none⟩) nn c) bt sz' nn xs) H') (hl : vs.length = sz) (hv : ∀ j u, vs[j]? = some u → xs[i + j]? = some u)
    (k : wpList P ops.toArray Q rest (A n ((d, .agg vs.toArray) :: l) f) w) :
    wpList P ops.toArray Q (⟨some d, .load t x, ty, pos, aft, none⟩ :: rest) (A n l f) w :=
  r_val rfl rfl (by
    have e : (⟨g, 0, none⟩ : Addr).add i = ⟨g, i, none⟩ := by rw [Addr.add_lit, Nat.zero_add]
    have hc : ∀ j u, vs[j]? = some u → w.cell? ((⟨g, i, none⟩ : Addr).add j) = some u := fun j u hu => by
      have := cell_sl hH s (hv j u hu)
      simpa [Addr.add_lit] using this
    have hr := run_loadCells_list (P := P) w ⟨g, i, none⟩ vs hc
    rw [hl] at hr
    simp only [execOp, hx, e, Instr.loadAt, Instr.sureAddr, loadVar, Sem.run_bind, Sem.run_pure, Result.andThen_ok, run_isAgg ht, hf, Bool.not_false, if_true, run_size hi, hr]) k
/-- Loads out of what is read. -/
theorem r_loadR {ad : Addr} {r : Ro} (ht : P.underlying t = some td) (hf : flatD td = true) (hx : ev n l f x = .pointer (some (ad.add i))) (hH : Holds w0 D w R H)
    (hr : r ∈ R) (ha : r.a = some ad) (hn : 0 < r.n) (hv : r.xs[i]? = some v)
    (k : wpList P ops.toArray Q rest (A n ((d, v) :: l) f) w) :
    wpList P ops.toArray Q (⟨some d, .load t x, ty, pos, aft, none⟩ :: rest) (A n l f) w :=
  r_val rfl rfl (by
    obtain ⟨ad', ha', _, hc'⟩ := (hH.ro r hr).1.2 hn
    rw [ha] at ha'; injection ha' with e; subst e
    have hc := hc' i v hv
    simp only [execOp, hx, Instr.loadAt, Instr.sureAddr, loadVar, Sem.run_bind, Sem.run_pure, Result.andThen_ok, run_isAgg ht, hf, Bool.not_true, Bool.false_eq_true, if_false, run_load, hc]) k
theorem r_loadRA {ad : Addr} {r : Ro} (ht : P.underlying t = some td) (hf : flatD td = false) (hi : Info P t z sz by_) (hx : ev n l f x = .pointer (some (ad.add i))) (hH : Holds w0 D w R H)
    (hr : r ∈ R) (ha : r.a = some ad) (hn : 0 < r.n) (hl : vs.length = sz) (hv : ∀ j u, vs[j]? = some u → r.xs[i + j]? = some u)
    (k : wpList P ops.toArray Q rest (A n ((d, .agg vs.toArray) :: l) f) w) :
    wpList P ops.toArray Q (⟨some d, .load t x, ty, pos, aft, none⟩ :: rest) (A n l f) w :=
  r_val rfl rfl (by
    obtain ⟨ad', ha', _, hc'⟩ := (hH.ro r hr).1.2 hn
    rw [ha] at ha'; injection ha' with e; subst e
    have hc : ∀ j u, vs[j]? = some u → w.cell? ((ad.add i).add j) = some u := fun j u hu => by
      rw [add_add]; exact hc' _ u (hv j u hu)
    have hrr := run_loadCells_list (P := P) w (ad.add i) vs hc
    rw [hl] at hrr
    simp only [execOp, hx, Instr.loadAt, Instr.sureAddr, loadVar, Sem.run_bind, Sem.run_pure, Result.andThen_ok, run_isAgg ht, hf, Bool.not_false, if_true, run_size hi, hrr]) k
/-- A store of a struct. -/
theorem r_storeA (hi : Info P t z sz by_) (hx : ev n l f x = .pointer (some ⟨g, i, none⟩)) (hy : ev n l f y = .agg vs.toArray) (h1 : ∀ u ∈ vs, u.oneCell' = true) (hn : vs.length = sz)
    (hH : Holds w0 D w R H) (s : Sel H (.pt g bt cs) H') (hl : i + vs.length ≤ cs.length)
    (k : ∀ w', Holds w0 D w' R (.pt g bt (cs.take i ++ vs ++ cs.drop (i + vs.length)) :: H') → wpList P ops.toArray Q rest (A n l f) w') :
    wpList P ops.toArray Q (⟨none, .store t x y, ty, pos, aft, none⟩ :: rest) (A n l f) w := by
  have key : ∀ (us : List Value) (j : Nat) (cs : List Value) (w : World) (H : List Own), Holds w0 D w R H → Sel H (.pt g bt cs) H' → (∀ u ∈ us, u.oneCell' = true) → i + j + us.length ≤ cs.length →
      ∃ w', (storeCells (⟨g, i, none⟩ : Addr) us j).run P w = .ok () w' ∧ Holds w0 D w' R (.pt g bt (cs.take (i + j) ++ us ++ cs.drop (i + j + us.length)) :: H') := by
    intro us
    induction us with
    | nil =>
      intro j cs w H hH s _ _
      refine ⟨w, by simp [storeCells], ?_⟩
      have := hH.sel s
      simpa using this
    | cons u us ih =>
      intro j cs w H hH s hone hlen
      simp only [List.length_cons] at hlen
      have hij : i + j < cs.length := by omega
      have hc := cell_pt hH s (List.getElem?_eq_getElem hij)
      have hfz := frozen_pt hH s (i + j)
      have hst := run_store P w ⟨g, i + j, none⟩ u .plain (hone u (by simp))
      rw [hc, hfz] at hst
      simp only [Bool.false_eq_true, if_false] at hst
      obtain ⟨w', hw', hH'⟩ := ih (j + 1) (cs.set (i + j) u) _ _ (hH.set s u) (.here _ _) (fun x hx => hone x (by simp [hx])) (by simp; omega)
      refine ⟨w', by simp [storeCells, Addr.add_lit, hst, hw'], ?_⟩
      have e : (cs.set (i + j) u).take (i + (j + 1)) ++ us ++ (cs.set (i + j) u).drop (i + (j + 1) + us.length) = cs.take (i + j) ++ (u :: us) ++ cs.drop (i + j + (u :: us).length) := by
        rw [show i + (j + 1) = (i + j) + 1 by omega, List.take_succ_eq_append_getElem (by simpa using hij), List.take_set_of_le (by omega), List.drop_set_of_lt (by omega)]
        simp
        congr 1
        omega
      rwa [e] at hH'
  obtain ⟨w', hw', hH'⟩ := key vs 0 cs w H hH s h1 (by omega)
  refine r_skip rfl rfl ?_ (k w' (by simpa using hH'))
  have hcs : (Value.agg vs.toArray).cells = vs.toArray := rfl
  simp [execOp, hx, hy, Instr.storeAt, Instr.sureAddr, storeVar, run_size hi, hcs, hn, hw']
end

/-! ### places -/
def fieldOff (P : Program) (t : TypeId) (i : Nat) : Option Nat :=
  match P.underlying t with
  | some (.struct fs) => match fs[i]? with
    | some f => match P.info? f.type with
      | some inf => if inf.size = 0 then none else some f.offset
      | none => none
    | none => none
  | _ => none
section
variable {x y : Operand} {t e : TypeId} {z v : Value} {g i m sz by_ o : Nat} {td : TypeDesc}
theorem r_fieldAddr (hf : fieldOff P t m = some o) (hx : ev n l f x = .pointer (some ⟨g, i, none⟩)) (k : wpList P ops.toArray Q rest (A n ((d, .pointer (some ⟨g, i + o, none⟩)) :: l) f) w) :
    wpList P ops.toArray Q (⟨some d, .fieldAddr t x m, ty, pos, aft, none⟩ :: rest) (A n l f) w :=
  r_val rfl rfl (by
    unfold fieldOff at hf
    cases h1 : P.underlying t with
    | none => rw [h1] at hf; cases hf
    | some td =>
      rw [h1] at hf
      cases td with
      | struct fs =>
        simp only at hf
        cases h2 : fs[m]? with
        | none => rw [h2] at hf; cases hf
        | some fl =>
          rw [h2] at hf
          simp only at hf
          cases h3 : P.info? fl.type with
          | none => rw [h3] at hf; cases hf
          | some inf =>
            rw [h3] at hf
            simp only at hf
            split at hf
            · cases hf
            · rename_i h4
              injection hf with hf
              subst hf
              simp [execOp, hx, Instr.fieldAt, run_underlying h1, h2, Instr.sureAddr, fieldPlace, sizeOf, typeInfo, h3, h4, Addr.add_lit]
      | _ => simp at hf) k
theorem r_indexAddr {ad : Addr} {len cap : Nat} {j : Int} {K : IntKind} (ht : P.underlying t = some (.slice e)) (hi : Info P e z sz by_) (hx : ev n l f x = .slice (some ad) len cap) (hy : ev n l f y = .int K j) (hr : 0 ≤ j ∧ j < len)
    (k : wpList P ops.toArray Q rest (A n ((d, .pointer (some (ad.add (j.toNat * sz)))) :: l) f) w) :
    wpList P ops.toArray Q (⟨some d, .indexAddr t x y, ty, pos, aft, none⟩ :: rest) (A n l f) w :=
  r_val rfl rfl (by simp [execOp, hx, hy, Instr.indexAt, run_underlying ht, asIntOf, hr, run_size hi]) k
theorem r_len {a : Option Addr} {len cap : Nat} (ht : P.underlying t = some (.slice e)) (hx : ev n l f x = .slice a len cap) (k : wpList P ops.toArray Q rest (A n ((d, .int .i64 (len : Int)) :: l) f) w) :
    wpList P ops.toArray Q (⟨some d, .call ⟨.builtin .len, #[x], #[t]⟩, ty, pos, aft, none⟩ :: rest) (A n l f) w :=
  r_val rfl rfl (by simp [execOp, resolve, invoke, builtin, hx, Builtin.len_, run_underlying ht, goInt]) k
theorem r_min {K : IntKind} {a b : Int} (hx : ev n l f x = .int K a) (hy : ev n l f y = .int K b) {ts : Array TypeId} (k : wpList P ops.toArray Q rest (A n ((d, .int K (if b < a then b else a)) :: l) f) w) :
    wpList P ops.toArray Q (⟨some d, .call ⟨.builtin .min, #[x, y], ts⟩, ty, pos, aft, none⟩ :: rest) (A n l f) w :=
  r_val rfl rfl (by simp [execOp, resolve, invoke, builtin, hx, hy, Builtin.min_, Builtin.min2]) k
theorem elem_eq (ht : P.underlying t = some (.slice e)) : P.elem t = e := by simp [Program.elem, ht]
theorem r_slice_lhS {a : Option Addr} {len cap : Nat} {i j : Int} {K K' : IntKind} {lo hi : Operand} (ht : P.underlying t = some (.slice e)) (hi' : Info P e z sz by_) (hx : ev n l f x = .slice a len cap)
    (hlo : ev n l f lo = .int K i) (hhi : ev n l f hi = .int K' j) (hr : 0 ≤ i ∧ i ≤ j ∧ j ≤ cap)
    (k : wpList P ops.toArray Q rest (A n ((d, .slice (if cap = i.toNat then a else a.map (·.add (i.toNat * sz))) (j.toNat - i.toNat) (cap - i.toNat)) :: l) f) w) :
    wpList P ops.toArray Q (⟨some d, .slice t x (some lo) (some hi) none, ty, pos, aft, none⟩ :: rest) (A n l f) w :=
  r_val rfl rfl (by
    have ht' : P.underlying t = some (.slice (P.elem t)) := by rw [elem_eq ht]; exact ht
    have := run_slice_lh (P := P) w t a len cap ht' K K' i j hr.1 hr.2.1 hr.2.2
    simp [execOp, hx, hlo, hhi, run_sliceAt_slice (P := P) w t _ _ _ _ ht', this, elem_eq ht, run_size hi', sliced]) k
theorem r_slice_hS {a : Option Addr} {len cap : Nat} {j : Int} {K' : IntKind} {hi : Operand} (ht : P.underlying t = some (.slice e)) (hi' : Info P e z sz by_) (hx : ev n l f x = .slice a len cap)
    (hhi : ev n l f hi = .int K' j) (hr : 0 ≤ j ∧ j ≤ cap)
    (k : wpList P ops.toArray Q rest (A n ((d, .slice a j.toNat cap) :: l) f) w) :
    wpList P ops.toArray Q (⟨some d, .slice t x none (some hi) none, ty, pos, aft, none⟩ :: rest) (A n l f) w :=
  r_val rfl rfl (by
    have ht' : P.underlying t = some (.slice (P.elem t)) := by rw [elem_eq ht]; exact ht
    have := run_slice_h (P := P) w t a len cap ht' K' j hr.1 hr.2
    have e0 : ∀ a : Option Addr, a.map (fun x => x.add 0) = a := fun a => by cases a <;> simp [Addr.add]
    simp [execOp, hx, hhi, run_sliceAt_slice (P := P) w t _ _ _ _ ht', this, elem_eq ht, run_size hi', sliced, e0]) k
theorem r_slice_lS {a : Option Addr} {len cap : Nat} {i : Int} {K : IntKind} {lo : Operand} (ht : P.underlying t = some (.slice e)) (hi' : Info P e z sz by_) (hx : ev n l f x = .slice a len cap)
    (hlo : ev n l f lo = .int K i) (hr : 0 ≤ i ∧ i ≤ len)
    (k : wpList P ops.toArray Q rest (A n ((d, .slice (if cap = i.toNat then a else a.map (·.add (i.toNat * sz))) (len - i.toNat) (cap - i.toNat)) :: l) f) w) :
    wpList P ops.toArray Q (⟨some d, .slice t x (some lo) none none, ty, pos, aft, none⟩ :: rest) (A n l f) w :=
  r_val rfl rfl (by
    have ht' : P.underlying t = some (.slice (P.elem t)) := by rw [elem_eq ht]; exact ht
    have := run_slice_l (P := P) w t a len cap ht' K i hr.1 hr.2
    simp [execOp, hx, hlo, run_sliceAt_slice (P := P) w t _ _ _ _ ht', this, elem_eq ht, run_size hi', sliced]) k
end
end
end Go.Hr

/- Rules for what makes memory, for calls, and for the control of a function. -/
namespace Go.Hr
open Go Go.RowKit

section
variable {P : Program} {ops rest : List Oper} {Q : Exit → Act → World → Prop} {n : Nat} {l : List (Nat × Value)} {f : Nat → Value} {w w' w0 : World}
  {d : Nat} {ty : TypeId} {pos : String} {aft : Array Edge} {D : List Nat} {R : List Ro} {H H' : List Own}

/-! ### structs by value -/
theorem r_build {t : TypeId} {fs : Array Field} {z : Value} {sz by_ : Nat} {parts : Array (Nat × Operand)} {vals : Array (Nat × Value)} {pl : Array (Nat × Nat)} {cells : Array Value}
    (ht : P.underlying t = some (.struct fs)) (hi : Info P t z sz by_)
    (hpl : ∀ w, (fs.mapM fun f => do pure (f.offset, ← sizeOf f.type) : Sem (Array (Nat × Nat))).run P w = .ok pl w)
    (hv : parts.map (fun (i, x) => (i, ev n l f x)) = vals) (hc : Instr.fill (pl[·]?) z.cells vals.toList = some cells)
    (k : wpList P ops.toArray Q rest (A n ((d, .agg cells) :: l) f) w) :
    wpList P ops.toArray Q (⟨some d, .build t parts, ty, pos, aft, none⟩ :: rest) (A n l f) w :=
  r_val rfl rfl (by
    have hr : (Instr.build t vals).run P w = .ok (.agg cells) w := by
      simp only [Instr.build, Sem.run_bind, run_zero hi, Result.andThen_ok, run_underlying ht, hpl, hc, Sem.run_pure]
    simp only [execOp, hv, Sem.run_bind, hr]; simp) k
theorem r_field {t : TypeId} {x : Operand} {fs : Array Field} {fl : Field} {td : TypeDesc} {i : Nat} {cs : Array Value} {v : Value} (ht : P.underlying t = some (.struct fs)) (hf : fs[i]? = some fl)
    (htd : P.underlying fl.type = some td) (hfl : flatD td = true) (hx : ev n l f x = .agg cs) (hv : cs[fl.offset]? = some v)
    (k : wpList P ops.toArray Q rest (A n ((d, v) :: l) f) w) :
    wpList P ops.toArray Q (⟨some d, .field t x i, ty, pos, aft, none⟩ :: rest) (A n l f) w :=
  r_val rfl rfl (by simp [execOp, hx, Instr.field, run_underlying ht, hf, part, run_isAgg htd, hfl, asAgg, hv]) k

/-! ### slices -/
theorem ownsRow_exact {e : TypeId} {sz m : Nat} {xs : List Value} (hl : xs.length = m * sz) (hm : m ≤ maxLen) (w : World) :
    (w.alloc (.cells xs.toArray e)).ownsRow 0 e sz (.slice (some ⟨w.heap.size, 0, none⟩) m m) m xs :=
  ⟨hl, .inr ⟨w.heap.size, m, xs.toArray, rfl, Nat.zero_le _, heap_alloc_new w _, Nat.le_refl _, hm, by simpa using hl, by simp [← hl]⟩⟩
theorem r_buildSlice {t e : TypeId} {m : Nat} {z : Value} {sz by_ : Nat} {parts : Array (Nat × Operand)} {vals : Array (Nat × Value)} {xs : List Value}
    (ht : P.underlying t = some (.slice e)) (hi : Info P e z sz by_) (hp : 0 < m * sz) (hm : m * sz ≤ 16777216) (hm' : m ≤ maxLen)
    (hv : parts.map (fun (i, x) => (i, ev n l f x)) = vals)
    (hc : Instr.fill (fun i => some (i * sz, sz)) ((Array.range (m * sz)).map (z.cells[· % z.cells.size]!)) vals.toList = some xs.toArray) (hl : xs.length = m * sz)
    (hH : Holds w0 D w R H)
    (k : ∀ g w', w0.heap.size ≤ g → Holds w0 D w' R (.sl (.slice (some ⟨g, 0, none⟩) m m) e sz m xs :: H) → wpList P ops.toArray Q rest (A n ((d, .slice (some ⟨g, 0, none⟩) m m) :: l) f) w') :
    wpList P ops.toArray Q (⟨some d, .buildSlice t m parts, ty, pos, aft, none⟩ :: rest) (A n l f) w :=
  r_val rfl rfl (by
    have hr : (Instr.buildSlice t m vals).run P w = .ok (.slice (some ⟨w.heap.size, 0, none⟩) m m) (w.alloc (.cells xs.toArray e)) := by
      have h1 : ¬ (m * sz > 2 ^ 24) := by omega
      have h2 : m * sz ≠ 0 := by omega
      simp only [Instr.buildSlice, Sem.run_bind, run_underlying ht, Result.andThen_ok, run_size hi, if_neg h1, if_neg h2, run_zero hi, Sem.run_pure, hc, newRow, run_newObj]
      rfl
    simp only [execOp, hv, Sem.run_bind, hr, Result.andThen_ok, Sem.run_pure])
    (k w.heap.size (w.alloc (.cells xs.toArray e)) hH.size (hH.new_ ⟨rfl, rfl, rfl, by simp, fun b hb _ => Below.heap_alloc w _ b hb⟩ (ownsRow_exact hl hm' w) (.inr ⟨_, rfl, Nat.le_refl _⟩)))

/-- A slice that is owned, its form where it is not empty. -/
theorem Holds.form (hH : Holds w0 D w R H) {v : Value} {e : TypeId} {sz m : Nat} {xs : List Value} (s : Sel H (.sl v e sz m xs) H') (hm : 0 < m) :
    ∃ g cap, v = .slice (some ⟨g, 0, none⟩) m cap ∧ m ≤ cap ∧ xs.length = m * sz := by
  have ho : w.ownsRow 0 e sz v m xs := hH.each _ s.mem
  rcases ho.2 with ⟨_, h0⟩ | ⟨g, cap, cur, hv, _, _, h1, _⟩
  · omega
  · exact ⟨g, cap, hv, h1, ho.1⟩
theorem Holds.form0 (hH : Holds w0 D w R H) {v : Value} {e : TypeId} {sz m : Nat} {xs : List Value} (s : Sel H (.sl v e sz m xs) H') :
    ∃ a cap, v = .slice a m cap ∧ m ≤ cap ∧ xs.length = m * sz := by
  have ho : w.ownsRow 0 e sz v m xs := hH.each _ s.mem
  rcases ho.2 with ⟨hv, h0⟩ | ⟨g, cap, cur, hv, _, _, h1, _⟩
  · exact ⟨none, 0, by rw [hv, h0], by omega, ho.1⟩
  · exact ⟨_, cap, hv, h1, ho.1⟩

/-- append of what is read -/
theorem r_append {s x : Operand} {t e : TypeId} {v : Value} {z : Value} {sz by_ : Nat} {m : Nat} {xs : List Value} {A' : Option Addr} {m' c : Nat} {ys : List Value}
    (ht : P.underlying t = some (.slice e)) (hi : Info P e z sz by_) (hzs : z.cells.size = sz) (hsz : 0 < sz)
    (hs : ev n l f s = v) (hx : ev n l f x = .slice A' m' c) (hH : Holds w0 D w R H) (sel : Sel H (.sl v e sz m xs) H') (hr : Reads1 w R H' ⟨A', sz, m', ys, none⟩)
    (h1 : ∀ u ∈ ys, u.oneCell' = true) (h63 : m + m' ≤ 1099511627776) (hby : by_ ≤ 64)
    (k : ∀ v' w', Holds w0 D w' R (.sl v' e sz (m + m') (xs ++ ys) :: H') → wpList P ops.toArray Q rest (A n ((d, v') :: l) f) w') :
    wpList P ops.toArray Q (⟨some d, .call ⟨.builtin .append, #[s, x], #[t, t]⟩, ty, pos, aft, none⟩ :: rest) (A n l f) w := by
  have ho : w.ownsRow 0 e sz v m xs := hH.each _ sel.mem
  have hpre := (hH.sel sel).pre (Hf := [.sl v e sz m xs]) (Hr := H') (Re := [⟨A', sz, m', ys, none⟩]) (by intro r hrr; simp only [List.mem_singleton] at hrr; subst hrr; exact hr)
  obtain ⟨hro, _⟩ := hpre.ro _ (List.mem_singleton.2 rfl)
  obtain ⟨i, hi1, hi2, hi3, hi4⟩ := info_parts hi
  have hbytes : (m + m') * by_ ≤ 140737488355328 := Nat.le_trans (Nat.mul_le_mul h63 hby) (by decide)
  have h63' : m + m' ≤ maxLen := Nat.le_trans h63 (by decide)
  have hlen := hro.1.1
  simp only at hlen
  by_cases hm' : m' = 0
  · subst hm'
    have hy0 : ys = [] := List.eq_nil_of_length_eq_zero (by simpa using hlen)
    subst hy0
    have hrun : (Builtin.append_ #[t, t] ty #[v, .slice A' 0 c]).run P w = .ok v w := by
      rcases ho.2 with ⟨rfl, rfl⟩ | ⟨g, cap, cur, rfl, _, hg, hnc, _⟩
      · cases A' <;> simp [Builtin.append_, run_underlying ht, sizeOf, typeInfo, hi1, Builtin.lenOf, Builtin.firstCells, loadCells, loadCellsFrom]
      · cases A' <;> simp [Builtin.append_, run_underlying ht, sizeOf, typeInfo, hi1, Builtin.lenOf, Builtin.firstCells, hnc, storeCells, loadCells, loadCellsFrom]
    refine r_val rfl rfl ?_ (k v w ?_)
    · simp only [execOp, resolve, invoke, builtin, Sem.run_bind, Sem.run_pure, Result.andThen_ok, List.map_toArray, List.map_cons, List.map_nil, hs, hx, hrun]
    · simpa using hH.sel sel
  · obtain ⟨ad, ha, _, hc⟩ := hro.2 (Nat.pos_of_ne_zero hm')
    simp only at ha hc
    subst ha
    obtain ⟨v', w', hrun, h2, h3, _, h5⟩ := run_append_own_at (P := P) w 0 t ty e i z sz by_ ht hi1 hi2 hi3 hi4 hzs hsz v m xs ho ad m' c ys hlen hc h1 h63' hbytes (Nat.zero_le _)
    refine r_val rfl rfl ?_ (k v' w' (hH.put sel h3 h2 ?_))
    · simp only [execOp, resolve, invoke, builtin, Sem.run_bind, Sem.run_pure, Result.andThen_ok, List.map_toArray, List.map_cons, List.map_nil, hs, hx, hrun]
    · rcases h5 with h5 | h5
      · exact .inl h5
      · exact .inr (.inr ⟨_, h5, Nat.le_refl _⟩)

/-! ### texts and bytes -/
abbrev bytesV (bs : List UInt8) : List Value := bs.map fun b => .int .u8 (b.toNat : Int)
theorem r_toBytes {s t e : TypeId} {x : Operand} {la : List UInt8} (hs : P.underlying s = some .string) (ht : P.underlying t = some (.slice e)) (he : P.underlying e = some (.int .u8))
    (hx : ev n l f x = .string ⟨la.toArray⟩) (hH : Holds w0 D w R H)
    (k : ∀ g c w', la.length ≤ c → Holds w0 D w' (⟨some ⟨g, 0, none⟩, 1, la.length, bytesV la, none⟩ :: R) H → wpList P ops.toArray Q rest (A n ((d, .slice (some ⟨g, 0, none⟩) la.length c) :: l) f) w') :
    wpList P ops.toArray Q (⟨some d, .convert s t x, ty, pos, aft, none⟩ :: rest) (A n l f) w := by
  have hr := run_bytes_of_string (P := P) w s t e (mkS la) hs ht he
  rw [size_mk] at hr
  have hge : la.length ≤ grownCap w la.length 0 e := grownCap_ge w _ 0 e
  refine r_val (w' := w.drew.alloc (.cells (bytesRow (mkS la) (grownCap w la.length 0 e)) e ((bytesRow (mkS la) (grownCap w la.length 0 e)).size, (bytesRow (mkS la) (grownCap w la.length 0 e)).size + 1))) rfl rfl (by simp only [execOp, hx, Sem.run_bind, hr, Result.andThen_ok, Sem.run_pure]) (k w.heap.size _ _ hge ?_)
  generalize hC : bytesRow (mkS la) (grownCap w la.length 0 e) = C
  have h1 : Holds w0 D (w.drew.alloc (.cells C e (C.size, C.size + 1))) R H := by
    refine hH.step rfl rfl rfl (by simp) (fun b hb _ => Below.heap_alloc w.drew _ b hb) ?_ hH.nodup (fun b hb => .inl hb)
    intro o ho
    exact Own.keep (hH.each o ho) (fun b hb => Below.heap_alloc w.drew _ b (Own.lt (hH.each o ho) hb))
  refine ⟨h1.os, h1.tape, h1.output, h1.size, h1.each, h1.nodup, h1.fresh, h1.frame, fun r hr => ?_⟩
  rcases List.mem_cons.1 hr with rfl | hr
  · refine ⟨⟨⟨by simp, nofun⟩, fun hn => ⟨_, rfl, by simp, fun j u hu => ?_⟩⟩, fun hn ad ha hb => ?_⟩
    · have hcell : (w.drew.alloc (.cells C e (C.size, C.size + 1))).cell? ⟨w.heap.size, j, none⟩ = C[j]? := by
        have := heap_alloc_new w.drew (.cells C e (C.size, C.size + 1))
        unfold World.cell?
        have hsz : w.drew.heap.size = w.heap.size := rfl
        rw [hsz] at this
        simp only [this]
        rfl
      rw [Addr.add_lit, Nat.zero_add, hcell, ← hC]
      have hj : j < la.length := by have := (List.getElem?_eq_some_iff.1 hu).1; simpa using this
      simp only [bytesRow]
      rw [Array.getElem?_append_left (by simpa using hj)]
      simpa [List.getElem?_eq_getElem hj] using hu
    · simp only [Option.some.injEq] at ha
      rw [← ha] at hb
      exact absurd (hH.lt hb) (Nat.lt_irrefl _)
  · exact h1.ro r hr
theorem r_toText {s t e : TypeId} {x : Operand} {A' : Option Addr} {m c : Nat} {la : List UInt8} (hs : P.underlying s = some (.slice e)) (ht : P.underlying t = some .string) (he : P.underlying e = some (.int .u8))
    (hx : ev n l f x = .slice A' m c) (hH : Holds w0 D w R H) (hr : Reads1 w R H ⟨A', 1, m, bytesV la, none⟩)
    (k : wpList P ops.toArray Q rest (A n ((d, .string ⟨la.toArray⟩) :: l) f) w) :
    wpList P ops.toArray Q (⟨some d, .convert s t x, ty, pos, aft, none⟩ :: rest) (A n l f) w := by
  have hpre := hH.pre (Hf := []) (Hr := H) (Re := [⟨A', 1, m, bytesV la, none⟩]) (by intro r hrr; simp only [List.mem_singleton] at hrr; subst hrr; exact hr)
  obtain ⟨hro, _⟩ := hpre.ro _ (List.mem_singleton.2 rfl)
  have hlen : la.length = m := by simpa using hro.1.1
  have hrun : (convert s t (.slice A' m c)).run P w = .ok (.string (mkS la)) w := by
    by_cases hm : m = 0
    · subst hm
      have : la = [] := List.eq_nil_of_length_eq_zero hlen
      subst this
      rw [run_convert_bytes_string w s t e A' 0 c hs he ht]
      cases A' <;> simp [Conv.bytesToString, loadCells, loadCellsFrom] <;> rfl
    · obtain ⟨ad, ha, _, hc⟩ := hro.2 (by simpa using Nat.pos_of_ne_zero hm)
      simp only at ha hc
      subst ha
      subst hlen
      exact run_convert_bytes_back w s t e ad c la hs he ht (fun j hj => hc j _ (by simp [List.getElem?_eq_getElem hj]))
  exact r_val rfl rfl (by simp only [execOp, hx, Sem.run_bind, hrun, Result.andThen_ok, Sem.run_pure]) k
theorem r_toInt {s t : TypeId} {td : TypeDesc} {x : Operand} {K K' : IntKind} {a b : Int} (hs : P.underlying s = some td) (ht : P.underlying t = some (.int K')) (hx : ev n l f x = .int K a) (hb : K'.wrap a = b)
    (k : wpList P ops.toArray Q rest (A n ((d, .int K' b) :: l) f) w) :
    wpList P ops.toArray Q (⟨some d, .convert s t x, ty, pos, aft, none⟩ :: rest) (A n l f) w :=
  r_val rfl rfl (by simp [execOp, hx, convert, run_underlying hs, run_underlying ht, Conv.intToInt, hb]) k

/-! ### calls -/
theorem run_enter {g : FuncId} {fn : Func} {c : Code} (hf : P.funcs[g]? = some fn) (hb : fn.body = some c) (hnm : (fn.name == "runtime.NumGoroutine") = false) (args : Array Value) (w : World) :
    (callFunc g args).run P w = .ok (.enter g args) w := by
  have h1 : fn.name ≠ "runtime.NumGoroutine" := by simpa using hnm
  simp [callFunc, hf, h1, hb]
theorem r_callW {o : Oper} {g : FuncId} {args : Array Value} {T : Ending → World → Prop} (hd : o.dst = some d) (hg : o.guard = none) (h : (execOp (ev n l f) o).run P w = .ok (.enter g args) w)
    (c : Calls P g args w T) (k : ∀ e w', T e w' → ∃ v, e = .returned v ∧ wpList P ops.toArray Q rest (A n ((d, v) :: l) f) w') : wpList P ops.toArray Q (o :: rest) (A n l f) w :=
  wpList_plain hg fun K hK => by
    unfold Oper.wp
    rw [A_eval, h]
    simp only [Oper.upon]
    refine c.mono fun e w' ht => ?_
    obtain ⟨v, rfl, hk⟩ := k e w' ht
    simp only [hd, A_put]
    exact hK _ _ hk
theorem r_callW0 {o : Oper} {g : FuncId} {args : Array Value} {T : Ending → World → Prop} (hd : o.dst = none) (hg : o.guard = none) (h : (execOp (ev n l f) o).run P w = .ok (.enter g args) w)
    (c : Calls P g args w T) (k : ∀ e w', T e w' → ∃ v, e = .returned v ∧ wpList P ops.toArray Q rest (A n l f) w') : wpList P ops.toArray Q (o :: rest) (A n l f) w :=
  wpList_plain hg fun K hK => by
    unfold Oper.wp
    rw [A_eval, h]
    simp only [Oper.upon]
    refine c.mono fun e w' ht => ?_
    obtain ⟨v, rfl, hk⟩ := k e w' ht
    simp only [hd]
    exact hK _ _ hk
/-- A call of a named function whose contract is told of what is owned. -/
theorem r_call {g : FuncId} {fn : Func} {c : Code} {xs : Array Operand} {ts : Array TypeId} {args : Array Value} {Re : List Ro} {Hf Hr : List Own} {T : Value → List Own → Prop}
    (hf : P.funcs[g]? = some fn) (hb : fn.body = some c) (hnm : (fn.name == "runtime.NumGoroutine") = false)
    (hx : xs.map (ev n l f) = args) (hH : Holds w0 D w R H) (hc : CallsA P g args Re Hf T) (hp : H.Perm (Hf ++ Hr)) (hr : ∀ r ∈ Re, Reads1 w R Hr r)
    (k : ∀ v H' w', T v H' → Holds w0 D w' R (H' ++ Hr) → wpList P ops.toArray Q rest (A n ((d, v) :: l) f) w') :
    wpList P ops.toArray Q (⟨some d, .call ⟨.value (.func g), xs, ts⟩, ty, pos, aft, none⟩ :: rest) (A n l f) w :=
  r_callW rfl rfl (by
    have := run_enter hf hb hnm args w
    simp [execOp, resolve, Deferred.ofValue, ev, invoke, hx, this]) (hc.use (hH.perm hp) hr) (fun e w' ⟨v, H', he, ht, hh⟩ => ⟨v, he, k v H' w' ht hh⟩)
theorem r_call0 {g : FuncId} {fn : Func} {c : Code} {xs : Array Operand} {ts : Array TypeId} {args : Array Value} {Re : List Ro} {Hf Hr : List Own} {T : Value → List Own → Prop}
    (hf : P.funcs[g]? = some fn) (hb : fn.body = some c) (hnm : (fn.name == "runtime.NumGoroutine") = false)
    (hx : xs.map (ev n l f) = args) (hH : Holds w0 D w R H) (hc : CallsA P g args Re Hf T) (hp : H.Perm (Hf ++ Hr)) (hr : ∀ r ∈ Re, Reads1 w R Hr r)
    (k : ∀ v H' w', T v H' → Holds w0 D w' R (H' ++ Hr) → wpList P ops.toArray Q rest (A n l f) w') :
    wpList P ops.toArray Q (⟨none, .call ⟨.value (.func g), xs, ts⟩, ty, pos, aft, none⟩ :: rest) (A n l f) w :=
  r_callW0 rfl rfl (by
    have := run_enter hf hb hnm args w
    simp [execOp, resolve, Deferred.ofValue, ev, invoke, hx, this]) (hc.use (hH.perm hp) hr) (fun e w' ⟨v, H', he, ht, hh⟩ => ⟨v, he, k v H' w' ht hh⟩)
/-- A call of a function value. -/
theorem r_callV {g : FuncId} {fn : Func} {c : Code} {x : Operand} {xs : Array Operand} {ts : Array TypeId} {first capt args args' : Array Value} {Re : List Ro} {Hf Hr : List Own} {T : Value → List Own → Prop}
    (hf : P.funcs[g]? = some fn) (hb : fn.body = some c) (hnm : (fn.name == "runtime.NumGoroutine") = false) (hv : ev n l f x = .func (.func g) first capt)
    (hx : xs.map (ev n l f) = args') (ha : first ++ args' ++ capt = args) (hH : Holds w0 D w R H) (hc : CallsA P g args Re Hf T) (hp : H.Perm (Hf ++ Hr)) (hr : ∀ r ∈ Re, Reads1 w R Hr r)
    (k : ∀ v H' w', T v H' → Holds w0 D w' R (H' ++ Hr) → wpList P ops.toArray Q rest (A n ((d, v) :: l) f) w') :
    wpList P ops.toArray Q (⟨some d, .call ⟨.value x, xs, ts⟩, ty, pos, aft, none⟩ :: rest) (A n l f) w :=
  r_callW rfl rfl (by
    have := run_enter hf hb hnm args w
    simp [execOp, resolve, Deferred.ofValue, hv, invoke, hx, ha, this]) (hc.use (hH.perm hp) hr) (fun e w' ⟨v, H', he, ht, hh⟩ => ⟨v, he, k v H' w' ht hh⟩)
end

/-! ### control -/
section
variable {P : Program} {Q : Exit → Act → World → Prop} {n : Nat} {l : List (Nat × Value)} {f : Nat → Value} {w w0 : World} {D : List Nat} {R : List Ro} {H : List Own}

theorem c_region {id : Nat} {ops : List Oper} (k : wpList P ops.toArray Q ops (A n l f) w) : (Code.region id ops.toArray false).wp P Q (A n l f) w := wp_region_lit k
theorem c_seq {a b : Code} (k : a.wp P (Exit.then (b.wp P Q) Q) (A n l f) w) : (Code.seq a b).wp P Q (A n l f) w := wp_seq k
theorem c_skip (k : Q .normal (A n l f) w) : Code.skip.wp P Q (A n l f) w := wp_skip k
theorem c_ret (k : Q .ret (A n l f) w) : Code.ret.wp P Q (A n l f) w := wp_ret k
theorem c_exit {id : Nat} (k : Q (.exit id) (A n l f) w) : (Code.exit id).wp P Q (A n l f) w := wp_exit k
theorem c_block {id : Nat} {c : Code} (k : c.wp P (Exit.inBlock id Q) (A n l f) w) : (Code.block id c).wp P Q (A n l f) w := wp_block k
theorem c_cond {x : Operand} {a b : Code} {t : Bool} (hx : ev n l f x = .bool t) (kt : t = true → a.wp P Q (A n l f) w) (kf : t = false → b.wp P Q (A n l f) w) : (Code.cond x a b).wp P Q (A n l f) w :=
  wp_cond_split (t := t) (by rw [A_eval]; exact hx) kt kf
theorem c_cond_t {x : Operand} {a b : Code} (hx : ev n l f x = .bool true) (kt : a.wp P Q (A n l f) w) : (Code.cond x a b).wp P Q (A n l f) w :=
  c_cond hx (fun _ => kt) (fun h => by cases h)
theorem c_cond_f {x : Operand} {a b : Code} (hx : ev n l f x = .bool false) (kf : b.wp P Q (A n l f) w) : (Code.cond x a b).wp P Q (A n l f) w :=
  c_cond hx (fun h => by cases h) (fun _ => kf)

theorem lk_append (l : List (Nat × Value)) (f : Nat → Value) : A n l f = A n [] (lk l f) := by
  simp only [A]
  congr 1
/-- A loop: an invariant over the slots and what is owned, and a number that goes down. -/
theorem c_loop {c : Code} (I : Nat → (Nat → Value) → World → Prop) (m0 : Nat) (h0 : I m0 (lk l f) w)
    (round : ∀ m f w, I m f w → c.wp P (Exit.then (fun a' w' => ∃ m' l' f', m' < m ∧ a' = A n l' f' ∧ I m' (lk l' f') w') Q) (A n [] f) w) : (Code.loop c).wp P Q (A n l f) w := by
  have key : ∀ m f w, I m f w → (Code.loop c).wp P Q (A n [] f) w := by
    intro m f w hI b k cs
    have key2 : ∀ m f w, I m f w → ∃ e a' w', Q e a' w' ∧ Arrives P (lone (b.at (A n [] f) (.code c :: .inLoop c :: k)) cs w) b k cs e a' w' := by
      intro m
      induction m using Nat.strongRecOn with
      | _ m ih =>
        intro f w hI
        obtain ⟨e, a₁, w₁, hq, harr⟩ := round m f w hI b (.inLoop c :: k) cs
        cases e with
        | normal =>
          obtain ⟨m', l', f', hlt, ha, hI₁⟩ := hq
          rw [lk_append] at ha
          subst ha
          obtain ⟨e₂, a₂, w₂, hq₂, harr₂⟩ := ih m' hlt _ w₁ hI₁
          exact ⟨e₂, a₂, w₂, hq₂, .of_steps (Steps.trans harr (.one step_inLoop)) harr₂⟩
        | exit id => exact ⟨_, a₁, w₁, hq, .pass (x := .inLoop c) rfl (fun _ _ => .inl (by simp)) harr⟩
        | goto l => exact ⟨_, a₁, w₁, hq, .pass (x := .inLoop c) rfl (fun _ _ => .inl (by simp)) harr⟩
        | ret => exact ⟨_, a₁, w₁, hq, .pass (x := .inLoop c) rfl (fun _ _ => .inl (by simp)) harr⟩
        | panic ch => exact ⟨_, a₁, w₁, hq, .pass (x := .inLoop c) rfl (fun _ _ => .inl (by simp)) harr⟩
        | outgrown => exact ⟨_, a₁, w₁, hq, .pass (x := .inLoop c) rfl (fun _ _ => .inl (by simp)) harr⟩
    obtain ⟨e, a', w', hq, harr⟩ := key2 m f w hI
    exact ⟨e, a', w', hq, .of_steps (.one step_loop) harr⟩
  rw [lk_append]
  exact key m0 _ w h0

/-- A function's contract out of its body. -/
theorem callsA_of {g : FuncId} {fn : Func} {c : Code} {args : List Value} {T : Value → List Own → Prop} (hf : P.funcs[g]? = some fn) (hb : fn.body = some c) (hn : fn.ntmps = n) (hl : args.length ≤ n)
    (h : ∀ w0, Holds w0 (bl H) w0 R H → c.wp P (bodyPost P fn fun e w' => ∃ v H', e = .returned v ∧ T v H' ∧ Holds w0 (bl H) w' R H') (A n [] (fun i => args.getD i undef)) w0) : CallsA P g args.toArray R H T := by
  intro w hw
  refine calls_of_wp hf hb ?_
  rw [hn, A_start args n hl]
  exact h w hw
theorem f_end {fn : Func} {T : Ending → World → Prop} {v : Value} (hr : (results fn (A n l f).tmps).run P w = .ok v w) (k : T (.returned v) w) : bodyPost P fn T .ret (A n l f) w := ⟨rfl, v, hr, k⟩
theorem f_end_ {fn : Func} {T : Ending → World → Prop} {v : Value} (hr : (results fn (A n l f).tmps).run P w = .ok v w) (k : T (.returned v) w) : bodyPost P fn T .normal (A n l f) w := ⟨rfl, v, hr, k⟩
theorem res0 {fn : Func} (h : fn.results = #[]) : (results fn (A n l f).tmps).run P w = .ok (.tuple #[]) w := results_none h _ _ _
theorem res1 {fn : Func} {t : Nat} {v : Value} (h : fn.results = #[.tmp t]) (hv : ev n l f (.tmp t) = v) : (results fn (A n l f).tmps).run P w = .ok v w := by
  rw [results_tmp h]
  have := congrFun (A_eval n l f) (.tmp t)
  simp only [Act.eval] at this
  rw [this, hv]
theorem res2 {fn : Func} {t u : Nat} {v v' : Value} (h : fn.results = #[.tmp t, .tmp u]) (hv : ev n l f (.tmp t) = v) (hv' : ev n l f (.tmp u) = v') : (results fn (A n l f).tmps).run P w = .ok (.tuple #[v, v']) w := by
  rw [results_tmp2 h]
  have e1 := congrFun (A_eval n l f) (.tmp t)
  have e2 := congrFun (A_eval n l f) (.tmp u)
  simp only [Act.eval] at e1 e2
  rw [e1, e2, hv, hv']
theorem res3 {fn : Func} {t u x : Nat} {v v' v'' : Value} (h : fn.results = #[.tmp t, .tmp u, .tmp x]) (hv : ev n l f (.tmp t) = v) (hv' : ev n l f (.tmp u) = v') (hv'' : ev n l f (.tmp x) = v'') :
    (results fn (A n l f).tmps).run P w = .ok (.tuple #[v, v', v'']) w := by
  have e1 := congrFun (A_eval n l f) (.tmp t)
  have e2 := congrFun (A_eval n l f) (.tmp u)
  have e3 := congrFun (A_eval n l f) (.tmp x)
  simp only [Act.eval] at e1 e2 e3
  have : (results fn (A n l f).tmps).run P w = .ok (.tuple #[(A n l f).tmps.getD t undef, (A n l f).tmps.getD u undef, (A n l f).tmps.getD x undef]) w := by simp [results, h]
  rw [this, e1, e2, e3, hv, hv', hv'']
theorem res4 {fn : Func} {t u x y : Nat} {v v' v'' v3 : Value} (h : fn.results = #[.tmp t, .tmp u, .tmp x, .tmp y]) (hv : ev n l f (.tmp t) = v) (hv' : ev n l f (.tmp u) = v') (hv'' : ev n l f (.tmp x) = v'') (hv3 : ev n l f (.tmp y) = v3) :
    (results fn (A n l f).tmps).run P w = .ok (.tuple #[v, v', v'', v3]) w := by
  have e1 := congrFun (A_eval n l f) (.tmp t)
  have e2 := congrFun (A_eval n l f) (.tmp u)
  have e3 := congrFun (A_eval n l f) (.tmp x)
  have e4 := congrFun (A_eval n l f) (.tmp y)
  simp only [Act.eval] at e1 e2 e3 e4
  have : (results fn (A n l f).tmps).run P w = .ok (.tuple #[(A n l f).tmps.getD t undef, (A n l f).tmps.getD u undef, (A n l f).tmps.getD x undef, (A n l f).tmps.getD y undef]) w := by simp [results, h]
  rw [this, e1, e2, e3, e4, hv, hv', hv'', hv3]
end
end Go.Hr

/- The rules for a value handed on, by its kind; guards; picks. -/
namespace Go.Hr
open Go Go.RowKit
section
variable {P : Program} {ops rest : List Oper} {Q : Exit → Act → World → Prop} {n : Nat} {l : List (Nat × Value)} {f : Nat → Value} {w : World}
  {d : Nat} {ty : TypeId} {pos : String} {aft : Array Edge} {x y : Operand}
theorem r_moveI {K : IntKind} {a : Int} (hx : ev n l f x = .int K a) (k : wpList P ops.toArray Q rest (A n ((d, .int K a) :: l) f) w) :
    wpList P ops.toArray Q (⟨some d, .move x, ty, pos, aft, none⟩ :: rest) (A n l f) w := r_move hx k
theorem r_assignI {K : IntKind} {a : Int} (hx : ev n l f x = .int K a) (k : wpList P ops.toArray Q rest (A n ((d, .int K a) :: l) f) w) :
    wpList P ops.toArray Q (⟨some d, .assign x, ty, pos, aft, none⟩ :: rest) (A n l f) w := r_assign hx k
theorem r_extractI {vs : Array Value} {i : Nat} {K : IntKind} {a : Int} (hx : ev n l f x = .tuple vs) (hv : vs[i]? = some (.int K a)) (k : wpList P ops.toArray Q rest (A n ((d, .int K a) :: l) f) w) :
    wpList P ops.toArray Q (⟨some d, .extract x i, ty, pos, aft, none⟩ :: rest) (A n l f) w := r_extract hx hv k
theorem r_moveB {b : Bool} (hx : ev n l f x = .bool b) (k : wpList P ops.toArray Q rest (A n ((d, .bool b) :: l) f) w) :
    wpList P ops.toArray Q (⟨some d, .move x, ty, pos, aft, none⟩ :: rest) (A n l f) w := r_move hx k
theorem r_assignB {b : Bool} (hx : ev n l f x = .bool b) (k : wpList P ops.toArray Q rest (A n ((d, .bool b) :: l) f) w) :
    wpList P ops.toArray Q (⟨some d, .assign x, ty, pos, aft, none⟩ :: rest) (A n l f) w := r_assign hx k
theorem r_extractB {vs : Array Value} {i : Nat} {b : Bool} (hx : ev n l f x = .tuple vs) (hv : vs[i]? = some (.bool b)) (k : wpList P ops.toArray Q rest (A n ((d, .bool b) :: l) f) w) :
    wpList P ops.toArray Q (⟨some d, .extract x i, ty, pos, aft, none⟩ :: rest) (A n l f) w := r_extract hx hv k
theorem r_moveS {s : ByteArray} (hx : ev n l f x = .string s) (k : wpList P ops.toArray Q rest (A n ((d, .string s) :: l) f) w) :
    wpList P ops.toArray Q (⟨some d, .move x, ty, pos, aft, none⟩ :: rest) (A n l f) w := r_move hx k
theorem r_assignS {s : ByteArray} (hx : ev n l f x = .string s) (k : wpList P ops.toArray Q rest (A n ((d, .string s) :: l) f) w) :
    wpList P ops.toArray Q (⟨some d, .assign x, ty, pos, aft, none⟩ :: rest) (A n l f) w := r_assign hx k
theorem r_extractS {vs : Array Value} {i : Nat} {s : ByteArray} (hx : ev n l f x = .tuple vs) (hv : vs[i]? = some (.string s)) (k : wpList P ops.toArray Q rest (A n ((d, .string s) :: l) f) w) :
    wpList P ops.toArray Q (⟨some d, .extract x i, ty, pos, aft, none⟩ :: rest) (A n l f) w := r_extract hx hv k
theorem r_moveP {a : Addr} (hx : ev n l f x = .pointer (some a)) (k : wpList P ops.toArray Q rest (A n ((d, .pointer (some a)) :: l) f) w) :
    wpList P ops.toArray Q (⟨some d, .move x, ty, pos, aft, none⟩ :: rest) (A n l f) w := r_move hx k
theorem r_assignP {a : Addr} (hx : ev n l f x = .pointer (some a)) (k : wpList P ops.toArray Q rest (A n ((d, .pointer (some a)) :: l) f) w) :
    wpList P ops.toArray Q (⟨some d, .assign x, ty, pos, aft, none⟩ :: rest) (A n l f) w := r_assign hx k
theorem r_extractP {vs : Array Value} {i : Nat} {a : Addr} (hx : ev n l f x = .tuple vs) (hv : vs[i]? = some (.pointer (some a))) (k : wpList P ops.toArray Q rest (A n ((d, .pointer (some a)) :: l) f) w) :
    wpList P ops.toArray Q (⟨some d, .extract x i, ty, pos, aft, none⟩ :: rest) (A n l f) w := r_extract hx hv k
theorem r_movePN  (hx : ev n l f x = .pointer none) (k : wpList P ops.toArray Q rest (A n ((d, .pointer none) :: l) f) w) :
    wpList P ops.toArray Q (⟨some d, .move x, ty, pos, aft, none⟩ :: rest) (A n l f) w := r_move hx k
theorem r_assignPN  (hx : ev n l f x = .pointer none) (k : wpList P ops.toArray Q rest (A n ((d, .pointer none) :: l) f) w) :
    wpList P ops.toArray Q (⟨some d, .assign x, ty, pos, aft, none⟩ :: rest) (A n l f) w := r_assign hx k
theorem r_extractPN {vs : Array Value} {i : Nat}  (hx : ev n l f x = .tuple vs) (hv : vs[i]? = some (.pointer none)) (k : wpList P ops.toArray Q rest (A n ((d, .pointer none) :: l) f) w) :
    wpList P ops.toArray Q (⟨some d, .extract x i, ty, pos, aft, none⟩ :: rest) (A n l f) w := r_extract hx hv k
theorem r_moveL {a : Option Addr} {m c : Nat} (hx : ev n l f x = .slice a m c) (k : wpList P ops.toArray Q rest (A n ((d, .slice a m c) :: l) f) w) :
    wpList P ops.toArray Q (⟨some d, .move x, ty, pos, aft, none⟩ :: rest) (A n l f) w := r_move hx k
theorem r_assignL {a : Option Addr} {m c : Nat} (hx : ev n l f x = .slice a m c) (k : wpList P ops.toArray Q rest (A n ((d, .slice a m c) :: l) f) w) :
    wpList P ops.toArray Q (⟨some d, .assign x, ty, pos, aft, none⟩ :: rest) (A n l f) w := r_assign hx k
theorem r_extractL {vs : Array Value} {i : Nat} {a : Option Addr} {m c : Nat} (hx : ev n l f x = .tuple vs) (hv : vs[i]? = some (.slice a m c)) (k : wpList P ops.toArray Q rest (A n ((d, .slice a m c) :: l) f) w) :
    wpList P ops.toArray Q (⟨some d, .extract x i, ty, pos, aft, none⟩ :: rest) (A n l f) w := r_extract hx hv k
theorem r_moveN  (hx : ev n l f x = .nilIface) (k : wpList P ops.toArray Q rest (A n ((d, .nilIface) :: l) f) w) :
    wpList P ops.toArray Q (⟨some d, .move x, ty, pos, aft, none⟩ :: rest) (A n l f) w := r_move hx k
theorem r_assignN  (hx : ev n l f x = .nilIface) (k : wpList P ops.toArray Q rest (A n ((d, .nilIface) :: l) f) w) :
    wpList P ops.toArray Q (⟨some d, .assign x, ty, pos, aft, none⟩ :: rest) (A n l f) w := r_assign hx k
theorem r_extractN {vs : Array Value} {i : Nat}  (hx : ev n l f x = .tuple vs) (hv : vs[i]? = some (.nilIface)) (k : wpList P ops.toArray Q rest (A n ((d, .nilIface) :: l) f) w) :
    wpList P ops.toArray Q (⟨some d, .extract x i, ty, pos, aft, none⟩ :: rest) (A n l f) w := r_extract hx hv k
theorem r_moveF {t : TypeId} {v : Value} (hx : ev n l f x = .iface t v) (k : wpList P ops.toArray Q rest (A n ((d, .iface t v) :: l) f) w) :
    wpList P ops.toArray Q (⟨some d, .move x, ty, pos, aft, none⟩ :: rest) (A n l f) w := r_move hx k
theorem r_assignF {t : TypeId} {v : Value} (hx : ev n l f x = .iface t v) (k : wpList P ops.toArray Q rest (A n ((d, .iface t v) :: l) f) w) :
    wpList P ops.toArray Q (⟨some d, .assign x, ty, pos, aft, none⟩ :: rest) (A n l f) w := r_assign hx k
theorem r_extractF {vs : Array Value} {i : Nat} {t : TypeId} {v : Value} (hx : ev n l f x = .tuple vs) (hv : vs[i]? = some (.iface t v)) (k : wpList P ops.toArray Q rest (A n ((d, .iface t v) :: l) f) w) :
    wpList P ops.toArray Q (⟨some d, .extract x i, ty, pos, aft, none⟩ :: rest) (A n l f) w := r_extract hx hv k
theorem r_moveA {cs : Array Value} (hx : ev n l f x = .agg cs) (k : wpList P ops.toArray Q rest (A n ((d, .agg cs) :: l) f) w) :
    wpList P ops.toArray Q (⟨some d, .move x, ty, pos, aft, none⟩ :: rest) (A n l f) w := r_move hx k
theorem r_assignA {cs : Array Value} (hx : ev n l f x = .agg cs) (k : wpList P ops.toArray Q rest (A n ((d, .agg cs) :: l) f) w) :
    wpList P ops.toArray Q (⟨some d, .assign x, ty, pos, aft, none⟩ :: rest) (A n l f) w := r_assign hx k
theorem r_extractA {vs : Array Value} {i : Nat} {cs : Array Value} (hx : ev n l f x = .tuple vs) (hv : vs[i]? = some (.agg cs)) (k : wpList P ops.toArray Q rest (A n ((d, .agg cs) :: l) f) w) :
    wpList P ops.toArray Q (⟨some d, .extract x i, ty, pos, aft, none⟩ :: rest) (A n l f) w := r_extract hx hv k
theorem r_moveU {cs : Array Value} (hx : ev n l f x = .tuple cs) (k : wpList P ops.toArray Q rest (A n ((d, .tuple cs) :: l) f) w) :
    wpList P ops.toArray Q (⟨some d, .move x, ty, pos, aft, none⟩ :: rest) (A n l f) w := r_move hx k
theorem r_assignU {cs : Array Value} (hx : ev n l f x = .tuple cs) (k : wpList P ops.toArray Q rest (A n ((d, .tuple cs) :: l) f) w) :
    wpList P ops.toArray Q (⟨some d, .assign x, ty, pos, aft, none⟩ :: rest) (A n l f) w := r_assign hx k
theorem r_extractU {vs : Array Value} {i : Nat} {cs : Array Value} (hx : ev n l f x = .tuple vs) (hv : vs[i]? = some (.tuple cs)) (k : wpList P ops.toArray Q rest (A n ((d, .tuple cs) :: l) f) w) :
    wpList P ops.toArray Q (⟨some d, .extract x i, ty, pos, aft, none⟩ :: rest) (A n l f) w := r_extract hx hv k
theorem r_moveG {g : Fn} {a c : Array Value} (hx : ev n l f x = .func g a c) (k : wpList P ops.toArray Q rest (A n ((d, .func g a c) :: l) f) w) :
    wpList P ops.toArray Q (⟨some d, .move x, ty, pos, aft, none⟩ :: rest) (A n l f) w := r_move hx k
theorem r_assignG {g : Fn} {a c : Array Value} (hx : ev n l f x = .func g a c) (k : wpList P ops.toArray Q rest (A n ((d, .func g a c) :: l) f) w) :
    wpList P ops.toArray Q (⟨some d, .assign x, ty, pos, aft, none⟩ :: rest) (A n l f) w := r_assign hx k
theorem r_extractG {vs : Array Value} {i : Nat} {g : Fn} {a c : Array Value} (hx : ev n l f x = .tuple vs) (hv : vs[i]? = some (.func g a c)) (k : wpList P ops.toArray Q rest (A n ((d, .func g a c) :: l) f) w) :
    wpList P ops.toArray Q (⟨some d, .extract x i, ty, pos, aft, none⟩ :: rest) (A n l f) w := r_extract hx hv k

theorem r_pick_tB {c : Operand} {b v : Bool} (hc : ev n l f c = .bool b) (hb : b = true) (hx : ev n l f x = .bool v) (k : wpList P ops.toArray Q rest (A n ((d, .bool v) :: l) f) w) :
    wpList P ops.toArray Q (⟨some d, .pick c x y, ty, pos, aft, none⟩ :: rest) (A n l f) w := r_pick_t hc hb hx k
theorem r_pick_fB {c : Operand} {b v : Bool} (hc : ev n l f c = .bool b) (hb : b = false) (hx : ev n l f y = .bool v) (k : wpList P ops.toArray Q rest (A n ((d, .bool v) :: l) f) w) :
    wpList P ops.toArray Q (⟨some d, .pick c x y, ty, pos, aft, none⟩ :: rest) (A n l f) w := r_pick_f hc hb hx k
theorem r_takeH {op : Op} {dst : Option Nat} {j e : Nat} {b b' : Bool} (hj : (ops[j]?).bind (·.dst) = some e) (hn : Nat.blt e n = true) (hb : lk l f e = .bool b) (h : b = b')
    (k : wpList P ops.toArray Q (⟨dst, op, ty, pos, aft, none⟩ :: rest) (A n l f) w) :
    wpList P ops.toArray Q (⟨dst, op, ty, pos, aft, some (j, b')⟩ :: rest) (A n l f) w := by
  subst h; exact r_take hj hn hb k
theorem r_guard {op : Op} {j e : Nat} {b b' : Bool} (hj : (ops[j]?).bind (·.dst) = some e) (hn : Nat.blt e n = true) (hb : lk l f e = .bool b)
    (kt : b = b' → wpList P ops.toArray Q (⟨some d, op, ty, pos, aft, none⟩ :: rest) (A n l f) w)
    (kf : b = !b' → wpList P ops.toArray Q rest (A n ((d, undef) :: l) f) w) :
    wpList P ops.toArray Q (⟨some d, op, ty, pos, aft, some (j, b')⟩ :: rest) (A n l f) w := by
  by_cases h : b = b'
  · exact r_takeH hj hn hb h (kt h)
  · exact r_pass hj hn hb h (kf (by cases b <;> cases b' <;> simp_all))
theorem r_passH {op : Op} {j e : Nat} {b b' : Bool} (hj : (ops[j]?).bind (·.dst) = some e) (hn : Nat.blt e n = true) (hb : lk l f e = .bool b) (h : b = !b')
    (k : wpList P ops.toArray Q rest (A n ((d, undef) :: l) f) w) :
    wpList P ops.toArray Q (⟨some d, op, ty, pos, aft, some (j, b')⟩ :: rest) (A n l f) w :=
  r_pass hj hn hb (by subst h; cases b' <;> simp) k
end
end Go.Hr

/- Regions that draw their order: a walk through all orders, in which what only yields is taken first. -/
namespace Go.Hr
open Go Go.RowKit

def isVal : Op → Bool
  | .move _ | .assign _ | .pick .. | .load .. | .binOp .. | .unOp .. | .makeInterface .. | .makeFunc .. | .slice .. | .fieldAddr .. | .field .. | .indexAddr .. | .index .. | .extract .. | .build .. | .nilCheck _ => true
  | .call ⟨.builtin .len, _, _⟩ => true
  | .call ⟨.builtin .min, _, _⟩ => true
  | _ => false

theorem andThen_val {r : Result Value} {nx : Next} {w' : World} (h : r.andThen (fun v w => .ok (.value v) w) = .ok nx w') : ∃ v, nx = .value v := by
  cases r with
  | ok v w => simp only [Result.andThen_ok, Result.ok.injEq] at h; exact ⟨v, h.1.symm⟩
  | halt x w => cases h

theorem valOnly {P : Program} {ρ : Operand → Value} {o : Oper} (hv : isVal o.op = true) {w w' : World} {nx : Next} (h : (execOp ρ o).run P w = .ok nx w') : ∃ v, nx = .value v := by
  obtain ⟨dst, op, ty, pos, aft, gd⟩ := o
  cases op <;> simp only [isVal, Bool.false_eq_true] at hv
  case move => simp [execOp] at h; exact ⟨_, h.1.symm⟩
  case assign => simp [execOp] at h; exact ⟨_, h.1.symm⟩
  case pick c a b =>
    simp only [execOp, Sem.run_bind] at h
    cases hr : (asBool (ρ c)).run P w with
    | ok b w1 => rw [hr] at h; simp at h; exact ⟨_, h.1.symm⟩
    | halt x w1 => rw [hr] at h; cases h
  case nilCheck x =>
    simp only [execOp] at h
    split at h
    · simp [runtimePanic] at h
    · simp [runtimePanic] at h
    · simp [runtimePanic] at h
    · split at h
      · simp [runtimePanic] at h
      · rw [Sem.run_bind] at h
        cases hp : Sem.run P program w with
        | halt y w1 => rw [hp] at h; cases h
        | ok pp w1 =>
          rw [hp, Result.andThen_ok, Sem.run_bind] at h
          cases hq : Sem.run P (nilAhead (pp.types.size + Made.depth) _ _ _) w1 with
          | halt y w2 => rw [hq] at h; cases h
          | ok qq w2 =>
            rw [hq, Result.andThen_ok] at h
            split at h
            · simp [unsupported] at h
            · simp at h; exact ⟨_, h.1.symm⟩
      · simp at h; exact ⟨_, h.1.symm⟩
    · simp at h; exact ⟨_, h.1.symm⟩
  case call c =>
    obtain ⟨cl, args, ts⟩ := c
    cases cl with
    | builtin b =>
      cases b <;> simp only [Bool.false_eq_true] at hv
      all_goals
        simp only [execOp, resolve, invoke, builtin, Sem.run_bind, Sem.run_pure, Result.andThen_ok] at h
        exact andThen_val h
    | _ => simp at hv
  all_goals
    simp only [execOp, Sem.run_bind] at h
    exact andThen_val (by simpa using h)

section
variable {P : Program} {ops : List Oper} {Q : Exit → Act → World → Prop} {S : World → Prop} {n : Nat} {l : List (Nat × Value)} {f : Nat → Value} {w : World} {m : Nat} {listed : Array Bool}

/-- Only what ends well. -/
def Well (Q : Exit → Act → World → Prop) : Exit → Act → World → Prop := fun e a w => e = .normal ∧ Q .normal a w
theorem not_lets (Q : Exit → Act → World → Prop) : ¬ LetsOut (Well Q) := fun ⟨_, _, h, _⟩ => nomatch h

/-- A region that draws: all orders, S holding all along. -/
theorem c_draw {id : Nat} (S : World → Prop) (hm : P.follows .mixedOrders = true)
    (k : wpAnyH P .any ops.toArray (Well Q) S ops.length (Array.replicate ops.length false) (A n l f) w.drew) : (Code.region id ops.toArray true).wp P Q (A n l f) w :=
  wp_mono (wp_region_held (Q := Well Q) (S := S) hm (by simpa using k)) fun e a w h => by obtain ⟨rfl, h⟩ := h; exact h

/-- What one operation does, told by a list of one. -/
def One (l : List (Nat × Value)) (f : Nat → Value) (n : Nat) (w : World) : Exit → Act → World → Prop := fun e a' w' => e = .normal ∧ a' = A n l f ∧ w' = w
theorem one_end : One l f n w .normal (A n l f) w := ⟨rfl, rfl, rfl⟩

theorem put_inj {d : Nat} {u v : Value} (hn : Nat.blt d n = true) (h : (A n l f).put (some d) u = A n ((d, v) :: l) f) : u = v := by
  rw [A_put] at h
  have h1 := congrArg (fun a => a.tmps[d]?) h
  simp only [A_tmp n _ f d hn, Option.some.injEq, lk] at h1
  simpa using h1

theorem yields_of {d : Nat} {o : Oper} {v : Value} (hv : isVal o.op = true) (hd : o.dst = some d) (hn : Nat.blt d n = true)
    (h : ∀ w, S w → wpList P ops.toArray (One ((d, v) :: l) f n w) [o] (A n l f) w) (hS : S w) : YieldsIf P ops.toArray S o v (A n l f) := by
  by_cases hw : Region.wanted o (yielded ops.toArray (A n l f).tmps) = true
  · refine .inl ⟨hw, fun w hS => ?_⟩
    have h1 := h w hS
    unfold wpList at h1
    rw [if_pos hw] at h1
    rcases h1 with h1 | ⟨_, _, _, h2, _⟩
    · unfold Oper.wp at h1
      cases hr : (execOp (A n l f).eval o).run P w with
      | ok nx w' =>
        obtain ⟨u, rfl⟩ := valOnly hv hr
        rw [hr] at h1
        simp only [Oper.upon, wpList] at h1
        obtain ⟨_, h2, rfl⟩ := h1
        rw [hd] at h2
        rw [put_inj hn h2]
      | halt x w' =>
        rw [hr] at h1
        cases x <;> simp [Oper.upon, One] at h1
    · cases h2
  · refine .inr ⟨by simpa using hw, ?_⟩
    have h1 := h w hS
    unfold wpList at h1
    rw [if_neg hw] at h1
    simp only [wpList] at h1
    obtain ⟨_, h2, _⟩ := h1
    rw [hd] at h2
    exact (put_inj hn h2).symm

theorem h_take {i d : Nat} {o : Oper} {v : Value} (hi : ops[i]? = some o) (hv : isVal o.op = true) (hd : o.dst = some d) (hn : Nat.blt d n = true)
    (hs : Region.noSelect ops.toArray = true) (hf : Region.free .any ops.toArray listed i = true) (hr : (Region.ready .any ops.toArray listed).contains i = true) (hS : S w)
    (h : ∀ w, S w → wpList P ops.toArray (One ((d, v) :: l) f n w) [o] (A n l f) w)
    (k : wpAnyH P .any ops.toArray (Well Q) S m (listed.setIfInBounds i true) (A n ((d, v) :: l) f) w) : wpAnyH P .any ops.toArray (Well Q) S (m + 1) listed (A n l f) w :=
  wpAnyH_take (by simpa using hi) hs hf hr (fun c a w h => nomatch h.1) (yields_of hv hd hn h hS) hS (by rw [hd, A_put]; exact k)

/-- What follows a loud one. -/
def Then (P : Program) (ops : List Oper) (Q : Exit → Act → World → Prop) (S : World → Prop) (m : Nat) (listed : Array Bool) : Exit → Act → World → Prop :=
  fun e a w => e = .normal ∧ S w ∧ wpAnyH P .any ops.toArray (Well Q) S m listed a w

theorem wpOp_of_list {i : Nat} {o : Oper} {K : Act → World → Prop} {a : Act} (hi : ops[i]? = some o)
    (h : wpList P ops.toArray (fun e a w => e = .normal ∧ K a w) [o] a w) : wpOp P ops.toArray (Well Q) i K a w := by
  unfold wpOp
  have : ops.toArray[i]? = some o := by simpa using hi
  simp only [this]
  unfold wpList at h
  split
  · rename_i hw
    rw [if_pos hw] at h
    rcases h with h | ⟨_, _, _, h, _⟩
    · refine .inl ?_
      unfold Oper.wp at *
      generalize (execOp a.eval o).run P w = r at *
      cases r with
      | ok nx w' =>
        cases nx <;> simp only [Oper.upon, wpList] at h ⊢
        case value u => exact h.2
        case skip => exact h.2
        case defer d => exact h.2
        case enter f args =>
          refine h.mono fun e w'' he => ?_
          cases e with
          | returned v => exact he.2
          | panicked c => exact nomatch he.1
          | outgrown =>
            obtain ⟨_, _, he, _⟩ := he
            exact nomatch he
        case row r args => exact Rows.mono h fun _ _ he => he.2
      | halt x w' =>
        cases x <;> simp only [Oper.upon] at h ⊢
        exact nomatch h.1
    · exact nomatch h
  · rename_i hw
    rw [if_neg hw] at h
    simp only [wpList] at h
    exact h.2

/-- The next is loud: whichever. -/
theorem h_all {rs : List Nat} (hr : Region.ready .any ops.toArray listed = rs) (hne : rs ≠ [])
    (h : ∀ i ∈ rs, ∃ o, ops[i]? = some o ∧ wpList P ops.toArray (Then P ops Q S m (listed.setIfInBounds i true)) [o] (A n l f) w) :
    wpAnyH P .any ops.toArray (Well Q) S (m + 1) listed (A n l f) w :=
  wpAnyH_all hr hne fun i hi => by
    obtain ⟨o, ho, h1⟩ := h i hi
    exact wpOp_of_list ho h1
theorem then_end (hS : S w) (k : wpAnyH P .any ops.toArray (Well Q) S m listed (A n l f) w) : Then P ops Q S m listed .normal (A n l f) w := ⟨rfl, hS, k⟩
theorem h_done (hr : Region.ready .any ops.toArray listed = []) (k : Q .normal (A n l f) w) : wpAnyH P .any ops.toArray (Well Q) S m listed (A n l f) w :=
  wpAnyH_done hr ⟨rfl, k⟩ m
theorem h_split {i j e : Nat} {dst : Option Nat} {op : Op} {ty : TypeId} {pos : String} {aft : Array Edge} {t b : Bool} (_hi : ops[i]? = some ⟨dst, op, ty, pos, aft, some (j, t)⟩) (_hj : (ops[j]?).bind (·.dst) = some e) (_hb : lk l f e = .bool b)
    (kt : b = true → wpAnyH P .any ops.toArray (Well Q) S m listed (A n l f) w) (kf : b = false → wpAnyH P .any ops.toArray (Well Q) S m listed (A n l f) w) : wpAnyH P .any ops.toArray (Well Q) S m listed (A n l f) w := by
  cases b
  · exact kf rfl
  · exact kt rfl
end

/-! ### Fewer things owned -/
inductive Sub : List Own → List Own → Prop
  | nil {H : List Own} : Sub H []
  | keep {o : Own} {H H' : List Own} (h : Sub H H') : Sub (o :: H) (o :: H')
  | skip {o : Own} {H H' : List Own} (h : Sub H H') : Sub (o :: H) H'
theorem Holds.sub {w0 w : World} {D : List Nat} {R : List Ro} {H H' : List Own} (h : Holds w0 D w R H) (s : Sub H H') : Holds w0 D w R H' := by
  have : ∃ X, H.Perm (H' ++ X) := by
    clear h
    induction s with
    | @nil H => exact ⟨H, by simp⟩
    | keep _ ih => obtain ⟨X, hX⟩ := ih; exact ⟨X, by simpa using hX⟩
    | @skip o H H' _ ih => obtain ⟨X, hX⟩ := ih; exact ⟨o :: X, (hX.cons o).trans List.perm_middle.symm⟩
  obtain ⟨X, hX⟩ := this
  exact (h.perm hX).of_sub
end Go.Hr

/- The rules once more, what is known of types found by instance. -/
namespace Go.Hr
open Go Go.RowKit

class Fo (P : Program) (t m : Nat) (o : outParam Nat) : Prop where h : fieldOff P t m = some o
class In (P : Program) (t : Nat) (z : outParam Value) (sz by_ : outParam Nat) : Prop where h : Info P t z sz by_
class Fl (P : Program) (t : Nat) : Prop where h : ∃ td, P.underlying t = some td ∧ flatD td = true
class Ag (P : Program) (t : Nat) : Prop where h : ∃ td, P.underlying t = some td ∧ flatD td = false
class Sli (P : Program) (t : Nat) (e : outParam Nat) : Prop where h : P.underlying t = some (.slice e)
class Str (P : Program) (t : Nat) : Prop where h : P.underlying t = some .string
class Boo (P : Program) (t : Nat) : Prop where h : P.underlying t = some .bool
class Itg (P : Program) (t : Nat) (K : outParam IntKind) : Prop where h : P.underlying t = some (.int K)
class Ifc (P : Program) (t : Nat) : Prop where h : P.underlying t = some (.interface (P.methodsAt t))
class Ptr (P : Program) (t : Nat) : Prop where h : P.underlying t = some (.pointer (P.pointee t))
class Con (P : Program) (t : Nat) : Prop where h : ∃ td, P.underlying t = some td ∧ ∀ ms, td ≠ .interface ms
class Plc (P : Program) (t : Nat) (pl : outParam (Array (Nat × Nat))) : Prop where
  h : ∃ fs, P.underlying t = some (.struct fs) ∧ ∀ w, (fs.mapM fun f => do pure (f.offset, ← sizeOf f.type) : Sem (Array (Nat × Nat))).run P w = .ok pl w
class Fdv (P : Program) (t i : Nat) (o : outParam Nat) : Prop where
  h : ∃ fs fl td, P.underlying t = some (.struct fs) ∧ fs[i]? = some fl ∧ P.underlying fl.type = some td ∧ flatD td = true ∧ fl.offset = o
class Mixed (P : Program) : Prop where h : P.follows .mixedOrders = true

/-- A block that is owned. -/
class SelP (H : List Own) (g : Nat) (bt : outParam TypeId) (cs : outParam (List Value)) (H' : outParam (List Own)) : Prop where h : Sel H (.pt g bt cs) H'
instance selHere (g : Nat) (bt : TypeId) (cs : List Value) (H : List Own) : SelP (.pt g bt cs :: H) g bt cs H := ⟨.here _ _⟩
instance (priority := low) selThere (x : Own) (g : Nat) (bt : TypeId) (cs : List Value) (H H' : List Own) [s : SelP H g bt cs H'] : SelP (x :: H) g bt cs (x :: H') := ⟨.there s.h⟩
/-- A slice that is owned. -/
class SelS (H : List Own) (v : Value) (e sz n : outParam Nat) (xs : outParam (List Value)) (H' : outParam (List Own)) : Prop where h : Sel H (.sl v e sz n xs) H'
instance selSHere (v : Value) (e sz n : Nat) (xs : List Value) (H : List Own) : SelS (.sl v e sz n xs :: H) v e sz n xs H := ⟨.here _ _⟩
instance (priority := low) selSThere (x : Own) (v : Value) (e sz n : Nat) (xs : List Value) (H H' : List Own) [s : SelS H v e sz n xs H'] : SelS (x :: H) v e sz n xs (x :: H') := ⟨.there s.h⟩

section
variable {P : Program} {ops rest : List Oper} {Q : Exit → Act → World → Prop} {n : Nat} {l : List (Nat × Value)} {f : Nat → Value} {w w' w0 : World}
  {d : Nat} {ty : TypeId} {pos : String} {aft : Array Edge} {D : List Nat} {R : List Ro} {H H' : List Own}
  {x y : Operand} {t u e bt : TypeId} {z v : Value} {g i m sz by_ o : Nat} {cs vs : List Value}

theorem p_load [ft : Fl P t] (hH : Holds w0 D w R H) (hx : ev n l f x = .pointer (some ⟨g, i, none⟩)) [s : SelP H g bt cs H'] (hv : cs[i]? = some v)
    (k : wpList P ops.toArray Q rest (A n ((d, v) :: l) f) w) :
    wpList P ops.toArray Q (⟨some d, .load t x, ty, pos, aft, none⟩ :: rest) (A n l f) w := by
  obtain ⟨td, ht, hf⟩ := ft.h
  exact r_load ht hf hx hH s.h hv k
theorem p_loadA [ft : Ag P t] [hi : In P t z sz by_] (hH : Holds w0 D w R H) (hx : ev n l f x = .pointer (some ⟨g, i, none⟩)) [s : SelP H g bt cs H'] (hl : i + sz ≤ cs.length)
    (k : wpList P ops.toArray Q rest (A n ((d, .agg ((cs.drop i).take sz).toArray) :: l) f) w) :
    wpList P ops.toArray Q (⟨some d, .load t x, ty, pos, aft, none⟩ :: rest) (A n l f) w := by
  obtain ⟨td, ht, hf⟩ := ft.h
  refine r_loadA ht hf hi.h hx hH s.h (by simp; omega) (fun j u hu => ?_) k
  rw [List.getElem?_take] at hu
  split at hu
  · rwa [List.getElem?_drop] at hu
  · cases hu
theorem p_store [hi : In P t z 1 by_] (hH : Holds w0 D w R H) (hx : ev n l f x = .pointer (some ⟨g, i, none⟩)) (hy : ev n l f y = v) (h1 : v.oneCell' = true) [s : SelP H g bt cs H'] (hl : Nat.blt i cs.length = true)
    (k : ∀ w', Holds w0 D w' R (.pt g bt (cs.set i v) :: H') → wpList P ops.toArray Q rest (A n l f) w') :
    wpList P ops.toArray Q (⟨none, .store t x y, ty, pos, aft, none⟩ :: rest) (A n l f) w :=
  r_store hi.h hx hy h1 hH s.h (Nat.blt_eq.mp hl) k
theorem p_storeA [hi : In P t z sz by_] (hH : Holds w0 D w R H) (hx : ev n l f x = .pointer (some ⟨g, i, none⟩)) (hy : ev n l f y = .agg vs.toArray) [s : SelP H g bt cs H'] (h1 : vs.all Value.oneCell' = true) (hn : vs.length = sz) (hl : i + vs.length ≤ cs.length)
    (k : ∀ w', Holds w0 D w' R (.pt g bt (cs.take i ++ vs ++ cs.drop (i + vs.length)) :: H') → wpList P ops.toArray Q rest (A n l f) w') :
    wpList P ops.toArray Q (⟨none, .store t x y, ty, pos, aft, none⟩ :: rest) (A n l f) w :=
  r_storeA hi.h hx hy (by simpa using h1) hn hH s.h hl k
theorem p_fieldAddr [ft : Fo P t m o] (hx : ev n l f x = .pointer (some ⟨g, i, none⟩)) (k : wpList P ops.toArray Q rest (A n ((d, .pointer (some ⟨g, i + o, none⟩)) :: l) f) w) :
    wpList P ops.toArray Q (⟨some d, .fieldAddr t x m, ty, pos, aft, none⟩ :: rest) (A n l f) w := r_fieldAddr ft.h hx k
theorem p_alloc [hi : In P t z sz by_] (hH : Holds w0 D w R H) (hz : z.cells.toList = cs) (k : ∀ g w', w0.heap.size ≤ g → Holds w0 D w' R (.pt g t cs :: H) → wpList P ops.toArray Q rest (A n ((d, .pointer (some ⟨g, 0, none⟩)) :: l) f) w') :
    wpList P ops.toArray Q (⟨some d, .alloc t, ty, pos, aft, none⟩ :: rest) (A n l f) w := r_alloc hi.h hH (by rw [hz]; exact k)
theorem p_boxA (hH : Holds w0 D w R H) (hx : ev n l f x = .agg cs.toArray) (k : ∀ g w', w0.heap.size ≤ g → Holds w0 D w' R (.pt g t cs :: H) → wpList P ops.toArray Q rest (A n ((d, .pointer (some ⟨g, 0, none⟩)) :: l) f) w') :
    wpList P ops.toArray Q (⟨some d, .box t x, ty, pos, aft, none⟩ :: rest) (A n l f) w := r_box hx hH k
theorem p_boxI (hH : Holds w0 D w R H) {K : IntKind} {a : Int} (hx : ev n l f x = .int K a) (k : ∀ g w', w0.heap.size ≤ g → Holds w0 D w' R (.pt g t [.int K a] :: H) → wpList P ops.toArray Q rest (A n ((d, .pointer (some ⟨g, 0, none⟩)) :: l) f) w') :
    wpList P ops.toArray Q (⟨some d, .box t x, ty, pos, aft, none⟩ :: rest) (A n l f) w := r_box hx hH k
theorem p_boxL (hH : Holds w0 D w R H) {a : Option Addr} {ln cp : Nat} (hx : ev n l f x = .slice a ln cp) (k : ∀ g w', w0.heap.size ≤ g → Holds w0 D w' R (.pt g t [.slice a ln cp] :: H) → wpList P ops.toArray Q rest (A n ((d, .pointer (some ⟨g, 0, none⟩)) :: l) f) w') :
    wpList P ops.toArray Q (⟨some d, .box t x, ty, pos, aft, none⟩ :: rest) (A n l f) w := r_box hx hH k
theorem p_len [ft : Sli P t e] {a : Option Addr} {len cap : Nat} (hx : ev n l f x = .slice a len cap) (k : wpList P ops.toArray Q rest (A n ((d, .int .i64 (len : Int)) :: l) f) w) :
    wpList P ops.toArray Q (⟨some d, .call ⟨.builtin .len, #[x], #[t]⟩, ty, pos, aft, none⟩ :: rest) (A n l f) w := r_len ft.h hx k
theorem p_len_s [ft : Str P t] {la : List UInt8} (hx : ev n l f x = .string ⟨la.toArray⟩) (k : wpList P ops.toArray Q rest (A n ((d, .int .i64 (la.length : Int)) :: l) f) w) :
    wpList P ops.toArray Q (⟨some d, .call ⟨.builtin .len, #[x], #[t]⟩, ty, pos, aft, none⟩ :: rest) (A n l f) w := r_len_s ft.h hx k
theorem p_indexAddr [ft : Sli P t e] [hi : In P e z sz by_] {ad : Addr} {len cap : Nat} {j : Int} {K : IntKind} (hx : ev n l f x = .slice (some ad) len cap) (hy : ev n l f y = .int K j) (hr : 0 ≤ j ∧ j < len)
    (k : wpList P ops.toArray Q rest (A n ((d, .pointer (some (ad.add (j.toNat * sz)))) :: l) f) w) :
    wpList P ops.toArray Q (⟨some d, .indexAddr t x y, ty, pos, aft, none⟩ :: rest) (A n l f) w := r_indexAddr ft.h hi.h hx hy hr k
theorem p_index [ft : Str P t] {la : List UInt8} {j : Int} {K : IntKind} (hx : ev n l f x = .string ⟨la.toArray⟩) (hy : ev n l f y = .int K j) (hr : 0 ≤ j ∧ j < la.length)
    (k : wpList P ops.toArray Q rest (A n ((d, .int .u8 ((la.getD j.toNat 0).toNat : Int)) :: l) f) w) :
    wpList P ops.toArray Q (⟨some d, .index t x y, ty, pos, aft, none⟩ :: rest) (A n l f) w := r_index ft.h hx hy hr k
theorem p_slice_lh [ft : Str P t] {la : List UInt8} {i j : Int} {K K' : IntKind} {lo hi : Operand} (hx : ev n l f x = .string ⟨la.toArray⟩) (hlo : ev n l f lo = .int K i) (hhi : ev n l f hi = .int K' j) (hr : 0 ≤ i ∧ i ≤ j ∧ j ≤ la.length)
    (k : wpList P ops.toArray Q rest (A n ((d, .string ⟨((la.drop i.toNat).take (j.toNat - i.toNat)).toArray⟩) :: l) f) w) :
    wpList P ops.toArray Q (⟨some d, .slice t x (some lo) (some hi) none, ty, pos, aft, none⟩ :: rest) (A n l f) w := r_slice_lh ft.h hx hlo hhi hr k
theorem p_slice_h [ft : Str P t] {la : List UInt8} {j : Int} {K' : IntKind} {hi : Operand} (hx : ev n l f x = .string ⟨la.toArray⟩) (hhi : ev n l f hi = .int K' j) (hr : 0 ≤ j ∧ j ≤ la.length)
    (k : wpList P ops.toArray Q rest (A n ((d, .string ⟨(la.take j.toNat).toArray⟩) :: l) f) w) :
    wpList P ops.toArray Q (⟨some d, .slice t x none (some hi) none, ty, pos, aft, none⟩ :: rest) (A n l f) w := r_slice_h ft.h hx hhi hr k
theorem p_slice_l [ft : Str P t] {la : List UInt8} {i : Int} {K : IntKind} {lo : Operand} (hx : ev n l f x = .string ⟨la.toArray⟩) (hlo : ev n l f lo = .int K i) (hr : 0 ≤ i ∧ i ≤ la.length)
    (k : wpList P ops.toArray Q rest (A n ((d, .string ⟨(la.drop i.toNat).toArray⟩) :: l) f) w) :
    wpList P ops.toArray Q (⟨some d, .slice t x (some lo) none none, ty, pos, aft, none⟩ :: rest) (A n l f) w := r_slice_l ft.h hx hlo hr k
theorem p_eqb [ft : Boo P t] {a b : Bool} (hx : ev n l f x = .bool a) (hy : ev n l f y = .bool b) (k : wpList P ops.toArray Q rest (A n ((d, .bool (a == b)) :: l) f) w) :
    wpList P ops.toArray Q (⟨some d, .binOp .eql t x y u, ty, pos, aft, none⟩ :: rest) (A n l f) w := r_eqb ft.h hx hy k
theorem p_neb [ft : Boo P t] {a b : Bool} (hx : ev n l f x = .bool a) (hy : ev n l f y = .bool b) (k : wpList P ops.toArray Q rest (A n ((d, .bool (!(a == b))) :: l) f) w) :
    wpList P ops.toArray Q (⟨some d, .binOp .neq t x y u, ty, pos, aft, none⟩ :: rest) (A n l f) w := r_neb ft.h hx hy k
theorem p_eqNil_held [ft : Ifc P t] {tx : TypeId} (hx : ev n l f x = .iface tx v) (k : wpList P ops.toArray Q rest (A n ((d, .bool false) :: l) f) w) :
    wpList P ops.toArray Q (⟨some d, .binOp .eql t x (.const .nilIface) u, ty, pos, aft, none⟩ :: rest) (A n l f) w := r_eqNil_held ft.h hx k
theorem p_eqNil_nil [ft : Ifc P t] (hx : ev n l f x = .nilIface) (k : wpList P ops.toArray Q rest (A n ((d, .bool true) :: l) f) w) :
    wpList P ops.toArray Q (⟨some d, .binOp .eql t x (.const .nilIface) u, ty, pos, aft, none⟩ :: rest) (A n l f) w := r_eqNil_nil ft.h hx k
theorem p_neNil_held [ft : Ifc P t] {tx : TypeId} (hx : ev n l f x = .iface tx v) (k : wpList P ops.toArray Q rest (A n ((d, .bool true) :: l) f) w) :
    wpList P ops.toArray Q (⟨some d, .binOp .neq t x (.const .nilIface) u, ty, pos, aft, none⟩ :: rest) (A n l f) w := r_neNil_held ft.h hx k
theorem p_neNil_nil [ft : Ifc P t] (hx : ev n l f x = .nilIface) (k : wpList P ops.toArray Q rest (A n ((d, .bool false) :: l) f) w) :
    wpList P ops.toArray Q (⟨some d, .binOp .neq t x (.const .nilIface) u, ty, pos, aft, none⟩ :: rest) (A n l f) w := r_neNil_nil ft.h hx k
theorem p_eqPtrNil [ft : Ptr P t] {p : Option Addr} (hx : ev n l f x = .pointer p) (k : wpList P ops.toArray Q rest (A n ((d, .bool p.isNone) :: l) f) w) :
    wpList P ops.toArray Q (⟨some d, .binOp .eql t x (.const (.pointer none)) u, ty, pos, aft, none⟩ :: rest) (A n l f) w := r_eqPtrNil ft.h hx k
theorem p_nePtrNil [ft : Ptr P t] {p : Option Addr} (hx : ev n l f x = .pointer p) (k : wpList P ops.toArray Q rest (A n ((d, .bool (!p.isNone)) :: l) f) w) :
    wpList P ops.toArray Q (⟨some d, .binOp .neq t x (.const (.pointer none)) u, ty, pos, aft, none⟩ :: rest) (A n l f) w := r_nePtrNil ft.h hx k
theorem p_makeInterface [ft : Con P t] (hx : ev n l f x = v) (k : wpList P ops.toArray Q rest (A n ((d, .iface t v) :: l) f) w) :
    wpList P ops.toArray Q (⟨some d, .makeInterface t x, ty, pos, aft, none⟩ :: rest) (A n l f) w := by
  obtain ⟨td, ht, hn⟩ := ft.h
  exact r_makeInterface ht hn hx k
theorem p_build {parts : List (Nat × Operand)} {vals : List (Nat × Value)} {pl : Array (Nat × Nat)} {cells : List Value} [ft : Plc P t pl] [hi : In P t z sz by_]
    (hv : parts.map (fun p => (p.1, ev n l f p.2)) = vals) (hc : Instr.fill (pl[·]?) z.cells vals = some cells.toArray)
    (k : wpList P ops.toArray Q rest (A n ((d, .agg cells.toArray) :: l) f) w) :
    wpList P ops.toArray Q (⟨some d, .build t parts.toArray, ty, pos, aft, none⟩ :: rest) (A n l f) w := by
  obtain ⟨fs, ht, hpl⟩ := ft.h
  exact r_build ht hi.h hpl (vals := vals.toArray) (by rw [← hv]; simp) hc k
theorem p_field [ft : Fdv P t i o] {cs : Array Value} (hx : ev n l f x = .agg cs) (hv : cs[o]? = some v)
    (k : wpList P ops.toArray Q rest (A n ((d, v) :: l) f) w) :
    wpList P ops.toArray Q (⟨some d, .field t x i, ty, pos, aft, none⟩ :: rest) (A n l f) w := by
  obtain ⟨fs, fl, td, h1, h2, h3, h4, h5⟩ := ft.h
  exact r_field h1 h2 h3 h4 hx (by rw [h5]; exact hv) k
theorem p_slice_lhS [ft : Sli P t e] [hi' : In P e z sz by_] {a : Option Addr} {len cap : Nat} {i j : Int} {K K' : IntKind} {lo hi : Operand} (hx : ev n l f x = .slice a len cap)
    (hlo : ev n l f lo = .int K i) (hhi : ev n l f hi = .int K' j) (hr : 0 ≤ i ∧ i ≤ j ∧ j ≤ cap)
    (k : wpList P ops.toArray Q rest (A n ((d, .slice (if cap = i.toNat then a else a.map (·.add (i.toNat * sz))) (j.toNat - i.toNat) (cap - i.toNat)) :: l) f) w) :
    wpList P ops.toArray Q (⟨some d, .slice t x (some lo) (some hi) none, ty, pos, aft, none⟩ :: rest) (A n l f) w := r_slice_lhS ft.h hi'.h hx hlo hhi hr k
theorem p_slice_hS [ft : Sli P t e] [hi' : In P e z sz by_] {a : Option Addr} {len cap : Nat} {j : Int} {K' : IntKind} {hi : Operand} (hx : ev n l f x = .slice a len cap)
    (hhi : ev n l f hi = .int K' j) (hr : 0 ≤ j ∧ j ≤ cap)
    (k : wpList P ops.toArray Q rest (A n ((d, .slice a j.toNat cap) :: l) f) w) :
    wpList P ops.toArray Q (⟨some d, .slice t x none (some hi) none, ty, pos, aft, none⟩ :: rest) (A n l f) w := r_slice_hS ft.h hi'.h hx hhi hr k
theorem p_slice_lS [ft : Sli P t e] [hi' : In P e z sz by_] {a : Option Addr} {len cap : Nat} {i : Int} {K : IntKind} {lo : Operand} (hx : ev n l f x = .slice a len cap)
    (hlo : ev n l f lo = .int K i) (hr : 0 ≤ i ∧ i ≤ len)
    (k : wpList P ops.toArray Q rest (A n ((d, .slice (if cap = i.toNat then a else a.map (·.add (i.toNat * sz))) (len - i.toNat) (cap - i.toNat)) :: l) f) w) :
    wpList P ops.toArray Q (⟨some d, .slice t x (some lo) none none, ty, pos, aft, none⟩ :: rest) (A n l f) w := r_slice_lS ft.h hi'.h hx hlo hr k

/-! ### tests that are said of numbers and texts -/
theorem c_condD {p : Prop} [Decidable p] {a b : Code} (hx : ev n l f x = .bool (decide p)) (kt : decide p = true → p → a.wp P Q (A n l f) w) (kf : decide p = false → ¬ p → b.wp P Q (A n l f) w) : (Code.cond x a b).wp P Q (A n l f) w :=
  c_cond hx (fun h => kt h (by simpa using h)) (fun h => kf h (by simpa using h))
theorem r_guardD {op : Op} {dst : Option Nat} {j e : Nat} {p : Prop} [Decidable p] {b' : Bool} (_hj : (ops[j]?).bind (·.dst) = some e) (_hn : Nat.blt e n = true) (_hb : lk l f e = .bool (decide p))
    (kt : decide p = true → p → wpList P ops.toArray Q (⟨dst, op, ty, pos, aft, some (j, b')⟩ :: rest) (A n l f) w)
    (kf : decide p = false → ¬ p → wpList P ops.toArray Q (⟨dst, op, ty, pos, aft, some (j, b')⟩ :: rest) (A n l f) w) :
    wpList P ops.toArray Q (⟨dst, op, ty, pos, aft, some (j, b')⟩ :: rest) (A n l f) w := by
  by_cases h : p
  · exact kt (by simpa using h) h
  · exact kf (by simpa using h) h

/-! ### calls -/
inductive Take : List Own → List Own → List Own → Prop
  | nil {H : List Own} : Take H [] H
  | cons {H H1 Hf Hr : List Own} {o : Own} (s : Sel H o H1) (t : Take H1 Hf Hr) : Take H (o :: Hf) Hr
theorem Take.perm {H Hf Hr : List Own} (t : Take H Hf Hr) : H.Perm (Hf ++ Hr) := by
  induction t with
  | nil => exact List.Perm.refl _
  | cons s _ ih => exact s.perm.trans (ih.cons _)
inductive ReadsAll (w : World) (R : List Ro) (Hr : List Own) : List Ro → Prop
  | nil : ReadsAll w R Hr []
  | cons {r : Ro} {Re : List Ro} (h : Reads1 w R Hr r) (t : ReadsAll w R Hr Re) : ReadsAll w R Hr (r :: Re)
theorem ReadsAll.all {w : World} {R Re : List Ro} {Hr : List Own} (t : ReadsAll w R Hr Re) : ∀ r ∈ Re, Reads1 w R Hr r := by
  induction t with
  | nil => intro r hr; cases hr
  | cons h _ ih => 
    intro r hr
    rcases List.mem_cons.1 hr with rfl | hr
    · exact h
    · exact ih r hr
theorem p_call {g : FuncId} {fn : Func} {c : Code} {xs : List Operand} {ts : Array TypeId} {args : List Value} {Re : List Ro} {Hf Hr : List Own} {T : Value → List Own → Prop}
    (hf : P.funcs[g]? = some fn) (hb : fn.body = some c) (hnm : (fn.name == "runtime.NumGoroutine") = false) (hH : Holds w0 D w R H)
    (hx : xs.map (ev n l f) = args) (hc : CallsA P g args.toArray Re Hf T) (hp : Take H Hf Hr) (hr : ReadsAll w R Hr Re)
    (k : ∀ v H' w', T v H' → Holds w0 D w' R (H' ++ Hr) → wpList P ops.toArray Q rest (A n ((d, v) :: l) f) w') :
    wpList P ops.toArray Q (⟨some d, .call ⟨.value (.func g), xs.toArray, ts⟩, ty, pos, aft, none⟩ :: rest) (A n l f) w :=
  r_call hf hb hnm (by rw [← hx]; simp) hH hc hp.perm hr.all k
theorem p_call0 {g : FuncId} {fn : Func} {c : Code} {xs : List Operand} {ts : Array TypeId} {args : List Value} {Re : List Ro} {Hf Hr : List Own} {T : Value → List Own → Prop}
    (hf : P.funcs[g]? = some fn) (hb : fn.body = some c) (hnm : (fn.name == "runtime.NumGoroutine") = false) (hH : Holds w0 D w R H)
    (hx : xs.map (ev n l f) = args) (hc : CallsA P g args.toArray Re Hf T) (hp : Take H Hf Hr) (hr : ReadsAll w R Hr Re)
    (k : ∀ v H' w', T v H' → Holds w0 D w' R (H' ++ Hr) → wpList P ops.toArray Q rest (A n l f) w') :
    wpList P ops.toArray Q (⟨none, .call ⟨.value (.func g), xs.toArray, ts⟩, ty, pos, aft, none⟩ :: rest) (A n l f) w :=
  r_call0 hf hb hnm (by rw [← hx]; simp) hH hc hp.perm hr.all k
theorem p_callV {g : FuncId} {fn : Func} {c : Code} {xs : List Operand} {ts : Array TypeId} {first capt : Array Value} {args' args : List Value} {Re : List Ro} {Hf Hr : List Own} {T : Value → List Own → Prop}
    (hf : P.funcs[g]? = some fn) (hb : fn.body = some c) (hnm : (fn.name == "runtime.NumGoroutine") = false) (hH : Holds w0 D w R H) (hv : ev n l f x = .func (.func g) first capt)
    (hx : xs.map (ev n l f) = args') (ha : first.toList ++ args' ++ capt.toList = args) (hc : CallsA P g args.toArray Re Hf T) (hp : Take H Hf Hr) (hr : ReadsAll w R Hr Re)
    (k : ∀ v H' w', T v H' → Holds w0 D w' R (H' ++ Hr) → wpList P ops.toArray Q rest (A n ((d, v) :: l) f) w') :
    wpList P ops.toArray Q (⟨some d, .call ⟨.value x, xs.toArray, ts⟩, ty, pos, aft, none⟩ :: rest) (A n l f) w :=
  r_callV hf hb hnm hv (args' := args'.toArray) (by rw [← hx]; simp) (by rw [← ha]; simp) hH hc hp.perm hr.all k

/-! ### ends -/
theorem p_ends {T : Value → List Own → Prop} (hH : Holds w0 D w R H) {H1 : List Own} (hp : Take H H1 H') (ht : T v H1) : ∃ v' H1', Ending.returned v = .returned v' ∧ T v' H1' ∧ Holds w0 D w R H1' :=
  ⟨v, H1, rfl, ht, (hH.perm hp.perm).of_sub⟩

/-! ### regions that draw -/
theorem all1 {p : Nat → Prop} {a : Nat} (ha : p a) : ∀ j ∈ [a], p j := by simpa using ha
theorem all2 {p : Nat → Prop} {a b : Nat} (ha : p a) (hb : p b) : ∀ j ∈ [a, b], p j := by simpa using ⟨ha, hb⟩
theorem all3 {p : Nat → Prop} {a b c : Nat} (ha : p a) (hb : p b) (hc : p c) : ∀ j ∈ [a, b, c], p j := by simpa using ⟨ha, hb, hc⟩
theorem c_drawH {l' : List Oper} {id : Nat} [m : Mixed P] (hH : Holds w0 D w R H)
    (k : Holds w0 D w.drew R H → wpAnyH P .any l'.toArray (Well Q) (fun w' => Holds w0 D w' R H) l'.length (Array.replicate l'.length false) (A n l f) w.drew) : (Code.region id l'.toArray true).wp P Q (A n l f) w :=
  c_draw _ m.h (k hH.drew)
/-- The first that may come up and only yields. -/
def nxt (ops : List Oper) (listed : Array Bool) : Option Nat := (Region.ready .any ops.toArray listed).find? fun i => ((ops[i]?).map fun o => isVal o.op).getD false
def ok_take (ops : List Oper) (listed : Array Bool) (n : Nat) (i d : Nat) : Bool :=
  Region.noSelect ops.toArray && Region.free .any ops.toArray listed i && (Region.ready .any ops.toArray listed).contains i && Nat.blt d n && ((ops[i]?).map fun o => isVal o.op && decide (o.dst = some d)).getD false
theorem h_next {S : World → Prop} {listed : Array Bool} {o : Oper} {mm : Nat} (_hi : nxt ops listed = some i) (ho : ops[i]? = some o) (hd : o.dst = some d) (hok : ok_take ops listed n i d = true) (hS : S w)
    (h : ∀ w, S w → wpList P ops.toArray (One ((d, v) :: l) f n w) [o] (A n l f) w)
    (k : wpAnyH P .any ops.toArray (Well Q) S mm (listed.setIfInBounds i true) (A n ((d, v) :: l) f) w) : wpAnyH P .any ops.toArray (Well Q) S (mm + 1) listed (A n l f) w := by
  simp only [ok_take, ho, Option.map_some, Option.getD_some, Bool.and_eq_true] at hok
  obtain ⟨⟨⟨⟨h1, h2⟩, h3⟩, h4⟩, h5, _⟩ := hok
  exact h_take ho h5 hd h4 h1 h2 h3 hS h k
end
end Go.Hr

/- Values by their kind; structs built. -/
namespace Go.Hr
open Go Go.RowKit

/-- A slot's value, in the form of a constructor. -/
inductive EvK (n : Nat) (l : List (Nat × Value)) (f : Nat → Value) (x : Operand) : Value → Prop
  | i {K : IntKind} {a : Int} (h : ev n l f x = .int K a) : EvK n l f x (.int K a)
  | b {a : Bool} (h : ev n l f x = .bool a) : EvK n l f x (.bool a)
  | s {la : List UInt8} (h : ev n l f x = .string ⟨la.toArray⟩) : EvK n l f x (.string ⟨la.toArray⟩)
  | p {a : Addr} (h : ev n l f x = .pointer (some a)) : EvK n l f x (.pointer (some a))
  | pn (h : ev n l f x = .pointer none) : EvK n l f x (.pointer none)
  | l {a : Option Addr} {m c : Nat} (h : ev n l f x = .slice a m c) : EvK n l f x (.slice a m c)
  | n (h : ev n l f x = .nilIface) : EvK n l f x .nilIface
  | f {t : TypeId} {v : Value} (h : ev n l f x = .iface t v) : EvK n l f x (.iface t v)
  | a {cs : List Value} (h : ev n l f x = .agg cs.toArray) : EvK n l f x (.agg cs.toArray)
  | u {g : Fn} {a b : Array Value} (h : ev n l f x = .func g a b) : EvK n l f x (.func g a b)
  | g (h : ev n l f x = .nilFunc) : EvK n l f x .nilFunc
  | any {v : Value} (h : ev n l f x = v) : EvK n l f x v
theorem EvK.eq {n : Nat} {l : List (Nat × Value)} {f : Nat → Value} {x : Operand} {v : Value} (h : EvK n l f x v) : ev n l f x = v := by cases h <;> assumption

inductive EvL (n : Nat) (l : List (Nat × Value)) (f : Nat → Value) : List Operand → List Value → Prop
  | nil : EvL n l f [] []
  | cons {x : Operand} {v : Value} {xs : List Operand} {vs : List Value} (h : EvK n l f x v) (t : EvL n l f xs vs) : EvL n l f (x :: xs) (v :: vs)
theorem EvL.eq {n : Nat} {l : List (Nat × Value)} {f : Nat → Value} {xs : List Operand} {vs : List Value} (h : EvL n l f xs vs) : xs.map (ev n l f) = vs := by
  induction h with
  | nil => rfl
  | cons h _ ih => rw [List.map_cons, h.eq, ih]
inductive EvP (n : Nat) (l : List (Nat × Value)) (f : Nat → Value) : List (Nat × Operand) → List (Nat × Value) → Prop
  | nil : EvP n l f [] []
  | cons {i : Nat} {x : Operand} {v : Value} {xs : List (Nat × Operand)} {vs : List (Nat × Value)} (h : EvK n l f x v) (t : EvP n l f xs vs) : EvP n l f ((i, x) :: xs) ((i, v) :: vs)
theorem EvP.eq {n : Nat} {l : List (Nat × Value)} {f : Nat → Value} {xs : List (Nat × Operand)} {vs : List (Nat × Value)} (h : EvP n l f xs vs) : xs.map (fun p => (p.1, ev n l f p.2)) = vs := by
  induction h with
  | nil => rfl
  | cons h _ ih => rw [List.map_cons, h.eq, ih]

def celL : Value → List Value
  | .agg ⟨cs⟩ => cs
  | v => [v]
theorem celL_eq (v : Value) : v.cells.toList = celL v := by cases v <;> rfl
def fillL (pl : List (Nat × Nat)) : List Value → List (Nat × Value) → List Value
  | cs, [] => cs
  | cs, (i, v) :: r => fillL pl (cs.take ((pl[i]?.getD (0, 0)).1) ++ celL v ++ cs.drop ((pl[i]?.getD (0, 0)).1 + (celL v).length)) r
def fillOk (pl : List (Nat × Nat)) (len : Nat) : List (Nat × Value) → Bool
  | [] => true
  | (i, v) :: r => (match pl[i]? with | none => false | some (off, size) => Nat.beq (celL v).length size && Nat.ble (off + (celL v).length) len) && fillOk pl len r

theorem set_all (vs : List Value) (off j : Nat) (cs : List Value) (h : off + j + vs.length ≤ cs.length) :
    (vs.zipIdx j).foldl (fun (cs : Array Value) p => cs.setIfInBounds (off + p.2) p.1) cs.toArray = (cs.take (off + j) ++ vs ++ cs.drop (off + j + vs.length)).toArray := by
  induction vs generalizing j cs with
  | nil => simp
  | cons v vs ih =>
    simp only [List.length_cons] at h
    simp only [List.zipIdx_cons, List.foldl_cons, List.setIfInBounds_toArray]
    rw [ih (j + 1) (cs.set (off + j) v) (by simp; omega)]
    congr 1
    have hij : off + j < cs.length := by omega
    rw [show off + (j + 1) = (off + j) + 1 by omega, List.take_succ_eq_append_getElem (by simpa using hij), List.take_set_of_le (by omega), List.drop_set_of_lt (by omega)]
    simp
    congr 1
    omega

theorem fill_eq (pl : List (Nat × Nat)) : ∀ (vals : List (Nat × Value)) (cs : List Value), fillOk pl cs.length vals = true → Instr.fill (pl.toArray[·]?) cs.toArray vals = some (fillL pl cs vals).toArray := by
  intro vals
  induction vals with
  | nil => intro cs _; rfl
  | cons p r ih =>
    obtain ⟨i, v⟩ := p
    intro cs h
    simp only [fillOk, Bool.and_eq_true] at h
    obtain ⟨h1, h2⟩ := h
    cases hp : pl[i]? with
    | none => rw [hp] at h1; cases h1
    | some q =>
      obtain ⟨off, size⟩ := q
      rw [hp] at h1
      simp only [Bool.and_eq_true] at h1
      obtain ⟨h3, h4⟩ := h1
      have h3 := Nat.eq_of_beq_eq_true h3
      have h4 := Nat.le_of_ble_eq_true h4
      have hcs : v.cells = (celL v).toArray := by rw [← celL_eq]
      have hsz : v.cells.size = (celL v).length := by rw [hcs]; simp
      have hsa := set_all (celL v) off 0 cs (by omega)
      have hlen : (cs.take off ++ celL v ++ cs.drop (off + (celL v).length)).length = cs.length := by simp; omega
      have hz : v.cells.zipIdx.foldl (fun (cs : Array Value) (p : Value × Nat) => cs.setIfInBounds (off + p.2) p.1) cs.toArray = (cs.take off ++ celL v ++ cs.drop (off + (celL v).length)).toArray := by
        rw [hcs]
        rw [← Array.foldl_toList]
        simpa using hsa
      unfold Instr.fill
      have hpa : pl.toArray[i]? = some (off, size) := by simpa using hp
      simp only [hpa]
      rw [if_neg (by simp only [hsz, List.size_toArray]; simp; omega)]
      have := ih (cs.take off ++ celL v ++ cs.drop (off + (celL v).length)) (by rw [hlen]; exact h2)
      simp only [fillL, hp, Option.getD_some]
      rw [← this]
      congr 1

section
variable {P : Program} {ops rest : List Oper} {Q : Exit → Act → World → Prop} {n : Nat} {l : List (Nat × Value)} {f : Nat → Value} {w w' w0 : World}
  {d : Nat} {ty : TypeId} {pos : String} {aft : Array Edge} {D : List Nat} {R : List Ro} {H H' : List Own}
  {x y : Operand} {t u e bt : TypeId} {z v : Value} {g i m sz by_ o : Nat} {cs vs : List Value}
theorem k_build {parts : List (Nat × Operand)} {vals : List (Nat × Value)} {pl : List (Nat × Nat)} {zs : List Value} [ft : Plc P t pl.toArray] [hi : In P t (.agg zs.toArray) sz by_]
    (hv : EvP n l f parts vals) (hok : fillOk pl zs.length vals = true)
    (k : wpList P ops.toArray Q rest (A n ((d, .agg (fillL pl zs vals).toArray) :: l) f) w) :
    wpList P ops.toArray Q (⟨some d, .build t parts.toArray, ty, pos, aft, none⟩ :: rest) (A n l f) w :=
  p_build hv.eq (fill_eq pl vals zs hok) k
theorem k_makeInterface [ft : Con P t] (hx : EvK n l f x v) (k : wpList P ops.toArray Q rest (A n ((d, .iface t v) :: l) f) w) :
    wpList P ops.toArray Q (⟨some d, .makeInterface t x, ty, pos, aft, none⟩ :: rest) (A n l f) w := p_makeInterface hx.eq k
theorem k_store [hi : In P t z 1 by_] (hH : Holds w0 D w R H) (hx : ev n l f x = .pointer (some ⟨g, i, none⟩)) (hy : EvK n l f y v) (h1 : v.oneCell' = true) [s : SelP H g bt cs H'] (hl : Nat.blt i cs.length = true)
    (k : ∀ w', Holds w0 D w' R (.pt g bt (cs.set i v) :: H') → wpList P ops.toArray Q rest (A n l f) w') :
    wpList P ops.toArray Q (⟨none, .store t x y, ty, pos, aft, none⟩ :: rest) (A n l f) w := p_store hH hx hy.eq h1 hl k
theorem k_makeFunc {gf : Fn} {fs cs : List Operand} {vs us : List Value} (hf : EvL n l f fs vs) (hc : EvL n l f cs us) (k : wpList P ops.toArray Q rest (A n ((d, .func gf vs.toArray us.toArray) :: l) f) w) :
    wpList P ops.toArray Q (⟨some d, .makeFunc gf fs.toArray cs.toArray, ty, pos, aft, none⟩ :: rest) (A n l f) w :=
  r_makeFunc (by rw [← hf.eq]; simp) (by rw [← hc.eq]; simp) k
theorem k_call {fn : Func} {c : Code} {xs : List Operand} {ts : Array TypeId} {args : List Value} {Re : List Ro} {Hf Hr : List Own} {T : Value → List Own → Prop}
    (hf : P.funcs[g]? = some fn) (hb : fn.body = some c) (hnm : (fn.name == "runtime.NumGoroutine") = false) (hH : Holds w0 D w R H)
    (hx : EvL n l f xs args) (hc : CallsA P g args.toArray Re Hf T) (hp : Take H Hf Hr) (hr : ReadsAll w R Hr Re)
    (k : ∀ v H' w', T v H' → Holds w0 D w' R (H' ++ Hr) → wpList P ops.toArray Q rest (A n ((d, v) :: l) f) w') :
    wpList P ops.toArray Q (⟨some d, .call ⟨.value (.func g), xs.toArray, ts⟩, ty, pos, aft, none⟩ :: rest) (A n l f) w :=
  p_call hf hb hnm hH hx.eq hc hp hr k
/-- what two slots hold -/
theorem k_buildSlice1 {x : Operand} [ft : Sli P t e] [hi : In P e z sz by_] (hH : Holds w0 D w R H) (hx : EvK n l f x v) (hs : (celL v).length = sz) (h0 : 0 < sz) (h2 : sz ≤ 16777216) (hz : z.cells.size = sz)
    (k : ∀ g w', w0.heap.size ≤ g → Holds w0 D w' R (.sl (.slice (some ⟨g, 0, none⟩) 1 1) e sz 1 (celL v) :: H) → wpList P ops.toArray Q rest (A n ((d, .slice (some ⟨g, 0, none⟩) 1 1) :: l) f) w') :
    wpList P ops.toArray Q (⟨some d, .buildSlice t 1 #[(0, x)], ty, pos, aft, none⟩ :: rest) (A n l f) w := by
  refine r_buildSlice (vals := #[(0, v)]) ft.h hi.h (by omega) (by omega) (by decide) (by simp [hx.eq]) ?_ (by omega) hH k
  have h1 : Instr.fill (fun i => some (i * sz, sz)) ((Array.range (1 * sz)).map (z.cells[· % z.cells.size]!)) [(0, v)] = some (celL v).toArray := by
    have hcs : v.cells = (celL v).toArray := by rw [← celL_eq]
    have hsz : v.cells.size = sz := by rw [hcs]; simp [hs]
    unfold Instr.fill
    simp only [Nat.zero_mul, Nat.zero_add, Nat.one_mul]
    rw [if_neg (by simp [hsz])]
    unfold Instr.fill
    have := set_all (celL v) 0 0 ((Array.range sz).map (z.cells[· % z.cells.size]!)).toList (by simp [hs])
    simp only [Nat.zero_add, List.take_zero, List.nil_append] at this
    rw [hcs, ← Array.foldl_toList]
    simp only [hs, List.drop_of_length_le (l := ((Array.range sz).map (z.cells[· % z.cells.size]!)).toList) (i := sz) (by simp), List.append_nil] at this
    have e : (Array.range sz).map (z.cells[· % z.cells.size]!) = ((List.range sz).map (z.cells[· % z.cells.size]!)).toArray := by apply Array.ext'; simp
    rw [e]
    simpa using this
  exact h1
end
end Go.Hr

/- Loops by the slots that matter; ends of functions; bytes as numbers. -/
namespace Go.Hr
open Go Go.RowKit

inductive Agree (g : Nat → Value) : List (Nat × Value) → Prop
  | nil : Agree g []
  | cons {k : Nat} {v : Value} {l : List (Nat × Value)} (h : g k = v) (t : Agree g l) : Agree g ((k, v) :: l)
theorem Agree.lk {g : Nat → Value} {l : List (Nat × Value)} (h : Agree g l) : lk l g = g := by
  funext t
  induction h with
  | nil => rfl
  | @cons k v l hk _ ih =>
    simp only [Hr.lk]
    cases hb : Nat.beq t k with
    | false => simpa using ih
    | true => have := Nat.eq_of_beq_eq_true hb; subst this; simp [hk]
theorem Agree.A {n : Nat} {g : Nat → Value} {l : List (Nat × Value)} (h : Agree g l) : A n [] g = A n l g := by rw [lk_append l g, h.lk]

section
variable {P : Program} {Q : Exit → Act → World → Prop} {n : Nat} {l : List (Nat × Value)} {f : Nat → Value} {w w0 : World} {D : List Nat} {R : List Ro} {H H' : List Own}

/-- A loop: a state, the slots that it tells, what holds, and a number that goes down. -/
theorem c_loopS {σ : Type} {c : Code} (slots : σ → List (Nat × Value)) (inv : σ → World → Prop) (meas : σ → Nat) (s0 : σ) (h0 : Agree (lk l f) (slots s0)) (hi : inv s0 w)
    (round : ∀ s f w, inv s w → c.wp P (Exit.then (fun a' w' => ∃ s' l' f', meas s' < meas s ∧ a' = A n l' f' ∧ Agree (lk l' f') (slots s') ∧ inv s' w') Q) (A n (slots s) f) w) : (Code.loop c).wp P Q (A n l f) w := by
  refine c_loop (n := n) (fun m f w => ∃ s, m = meas s ∧ Agree f (slots s) ∧ inv s w) (meas s0) ⟨s0, rfl, h0, hi⟩ ?_
  rintro m f w ⟨s, rfl, ha, hs⟩
  have h1 := round s f w hs
  rw [← ha.A] at h1
  refine wp_mono h1 fun e a w h => ?_
  cases e with
  | normal =>
    obtain ⟨s', l', f', hm, rfl, ha', hs'⟩ := h
    exact ⟨_, l', f', hm, rfl, s', rfl, ha', hs'⟩
  | _ => exact h

theorem e_end {fn : Func} {T : Value → List Own → Prop} {v : Value} {H1 : List Own} (hr : (results fn (A n l f).tmps).run P w = .ok v w) (hH : Holds w0 D w R H) (ht : T v H1) (hp : Take H H1 H') :
    bodyPost P fn (fun e w' => ∃ v H', e = .returned v ∧ T v H' ∧ Holds w0 D w' R H') .ret (A n l f) w :=
  f_end hr ⟨v, H1, rfl, ht, (hH.perm hp.perm).of_sub⟩
theorem e_end_ {fn : Func} {T : Value → List Own → Prop} {v : Value} {H1 : List Own} (hr : (results fn (A n l f).tmps).run P w = .ok v w) (hH : Holds w0 D w R H) (ht : T v H1) (hp : Take H H1 H') :
    bodyPost P fn (fun e w' => ∃ v H', e = .returned v ∧ T v H' ∧ Holds w0 D w' R H') .normal (A n l f) w :=
  f_end_ hr ⟨v, H1, rfl, ht, (hH.perm hp.perm).of_sub⟩
end

/-! ### results out of cells -/
section
variable {P : Program} {n : Nat} {l : List (Nat × Value)} {f : Nat → Value} {w w0 : World} {D : List Nat} {R : List Ro} {H H' : List Own}
theorem run_resCell {a : Act} {t : Nat} {ty : TypeId} {g : Nat} {bt sz by_ : Nat} {z : Value} {cs : List Value} [ft : Ag P ty] [hi : In P ty z sz by_] (hH : Holds w0 D w R H) (hx : a.eval (.tmp t) = .pointer (some ⟨g, 0, none⟩)) [s : SelP H g bt cs H'] (hl : cs.length = sz) :
    (Instr.loadAt ty (a.eval (.tmp t))).run P w = .ok (.agg cs.toArray) w := by
  obtain ⟨td, ht, hf⟩ := ft.h
  have hc : ∀ j u, cs[j]? = some u → w.cell? ((⟨g, 0, none⟩ : Addr).add j) = some u := fun j u hu => by
    have := cell_pt hH s.h hu
    simpa [Addr.add_lit] using this
  have hr := run_loadCells_list (P := P) w ⟨g, 0, none⟩ cs hc
  rw [hl] at hr
  simp only [hx, Instr.loadAt, Instr.sureAddr, loadVar, Sem.run_bind, Sem.run_pure, Result.andThen_ok, run_isAgg ht, hf, Bool.not_false, if_true, run_size hi.h, hr]
end

theorem u8_eq (c : UInt8) (k : Nat) (hk : k < 256) : ((c.toNat : Int) = (k : Int)) ↔ c = UInt8.ofNat k := by
  constructor
  · intro h
    apply UInt8.toNat_inj.1
    rw [UInt8.toNat_ofNat_of_lt' hk]
    omega
  · rintro rfl
    rw [UInt8.toNat_ofNat_of_lt' hk]
end Go.Hr

/- Guards that tell the kind of the next operation, for a walk that picks its rule fast. -/
namespace Go.Hr
open Go Go.RowKit
section
variable {P : Program} {ops rest : List Oper} {Q : Exit → Act → World → Prop} {n : Nat} {l : List (Nat × Value)} {f : Nat → Value} {w : World}
  {dst : Option Nat} {ty : TypeId} {pos : String} {aft : Array Edge} {gd : Option (Nat × Bool)} {x y c : Operand} {t u : TypeId}
theorem g_guard {op : Op} {q : Nat × Bool} (k : wpList P ops.toArray Q (⟨dst, op, ty, pos, aft, some q⟩ :: rest) (A n l f) w) : wpList P ops.toArray Q (⟨dst, op, ty, pos, aft, some q⟩ :: rest) (A n l f) w := k
theorem g_bin {b : BinOp} (k : wpList P ops.toArray Q (⟨dst, .binOp b t x y u, ty, pos, aft, gd⟩ :: rest) (A n l f) w) : wpList P ops.toArray Q (⟨dst, .binOp b t x y u, ty, pos, aft, gd⟩ :: rest) (A n l f) w := k
theorem g_eql (k : wpList P ops.toArray Q (⟨dst, .binOp .eql t x y u, ty, pos, aft, gd⟩ :: rest) (A n l f) w) : wpList P ops.toArray Q (⟨dst, .binOp .eql t x y u, ty, pos, aft, gd⟩ :: rest) (A n l f) w := k
theorem g_neq (k : wpList P ops.toArray Q (⟨dst, .binOp .neq t x y u, ty, pos, aft, gd⟩ :: rest) (A n l f) w) : wpList P ops.toArray Q (⟨dst, .binOp .neq t x y u, ty, pos, aft, gd⟩ :: rest) (A n l f) w := k
theorem g_pick (k : wpList P ops.toArray Q (⟨dst, .pick c x y, ty, pos, aft, gd⟩ :: rest) (A n l f) w) : wpList P ops.toArray Q (⟨dst, .pick c x y, ty, pos, aft, gd⟩ :: rest) (A n l f) w := k
theorem g_call {cl : Call} (k : wpList P ops.toArray Q (⟨dst, .call cl, ty, pos, aft, gd⟩ :: rest) (A n l f) w) : wpList P ops.toArray Q (⟨dst, .call cl, ty, pos, aft, gd⟩ :: rest) (A n l f) w := k
theorem g_slice {lo hi mx : Option Operand} (k : wpList P ops.toArray Q (⟨dst, .slice t x lo hi mx, ty, pos, aft, gd⟩ :: rest) (A n l f) w) : wpList P ops.toArray Q (⟨dst, .slice t x lo hi mx, ty, pos, aft, gd⟩ :: rest) (A n l f) w := k
theorem g_store (k : wpList P ops.toArray Q (⟨dst, .store t x y, ty, pos, aft, gd⟩ :: rest) (A n l f) w) : wpList P ops.toArray Q (⟨dst, .store t x y, ty, pos, aft, gd⟩ :: rest) (A n l f) w := k
theorem g_load (k : wpList P ops.toArray Q (⟨dst, .load t x, ty, pos, aft, gd⟩ :: rest) (A n l f) w) : wpList P ops.toArray Q (⟨dst, .load t x, ty, pos, aft, gd⟩ :: rest) (A n l f) w := k
theorem g_box (k : wpList P ops.toArray Q (⟨dst, .box t x, ty, pos, aft, gd⟩ :: rest) (A n l f) w) : wpList P ops.toArray Q (⟨dst, .box t x, ty, pos, aft, gd⟩ :: rest) (A n l f) w := k
theorem g_conv (k : wpList P ops.toArray Q (⟨dst, .convert t u x, ty, pos, aft, gd⟩ :: rest) (A n l f) w) : wpList P ops.toArray Q (⟨dst, .convert t u x, ty, pos, aft, gd⟩ :: rest) (A n l f) w := k
theorem g_build {ps : Array (Nat × Operand)} (k : wpList P ops.toArray Q (⟨dst, .build t ps, ty, pos, aft, gd⟩ :: rest) (A n l f) w) : wpList P ops.toArray Q (⟨dst, .build t ps, ty, pos, aft, gd⟩ :: rest) (A n l f) w := k
theorem g_func {g : Fn} {fs cs : Array Operand} (k : wpList P ops.toArray Q (⟨dst, .makeFunc g fs cs, ty, pos, aft, gd⟩ :: rest) (A n l f) w) : wpList P ops.toArray Q (⟨dst, .makeFunc g fs cs, ty, pos, aft, gd⟩ :: rest) (A n l f) w := k
theorem g_op {o : Oper} (k : wpList P ops.toArray Q (o :: rest) (A n l f) w) : wpList P ops.toArray Q (o :: rest) (A n l f) w := k
theorem g_cond {a b : Code} (k : (Code.cond x a b).wp P Q (A n l f) w) : (Code.cond x a b).wp P Q (A n l f) w := k
theorem g_any {m : Nat} {S : World → Prop} {md : Region.Mode} {listed : Array Bool} (k : wpAnyH P md ops.toArray Q S m listed (A n l f) w) : wpAnyH P md ops.toArray Q S m listed (A n l f) w := k
end
end Go.Hr

/- Rules for calls that enter no function of the program, for calls of methods, and for type assertions. -/
namespace Go.Hr
open Go Go.RowKit
section
variable {P : Program} {ops rest : List Oper} {Q : Exit → Act → World → Prop} {n : Nat} {l : List (Nat × Value)} {f : Nat → Value} {w w' w0 : World}
  {d : Nat} {ty : TypeId} {pos : String} {aft : Array Edge} {D : List Nat} {R : List Ro} {H H' : List Own}
  {x y : Operand} {t u e bt : TypeId} {z v : Value} {g : Nat} {xs : List Operand} {ts : Array TypeId} {args : List Value} {nm : String} {recv : Value}
theorem run_call_fn {ρ : Operand → Value} (hx : xs.map ρ = args) (hf : ρ (.func g) = .func (.func g) #[] #[]) : (execOp ρ ⟨some d, .call ⟨.value (.func g), xs.toArray, ts⟩, ty, pos, aft, none⟩).run P w = (callFunc g args.toArray).run P w := by
  simp [execOp, resolve, Deferred.ofValue, hf, invoke, hx]
/-- A call that yields at once. -/
theorem x_val (hx : EvL n l f xs args) (hr : (callFunc g args.toArray).run P w = .ok (.value v) w')
    (k : wpList P ops.toArray Q rest (A n ((d, v) :: l) f) w') : wpList P ops.toArray Q (⟨some d, .call ⟨.value (.func g), xs.toArray, ts⟩, ty, pos, aft, none⟩ :: rest) (A n l f) w :=
  r_val rfl rfl ((run_call_fn hx.eq rfl).trans hr) k
/-- A call that yields, having made one block. -/
theorem x_alloc {vf : Nat → Value} {cs : List Value} (hx : EvL n l f xs args) (hr : ∀ w, (callFunc g args.toArray).run P w = .ok (.value (vf w.heap.size)) (w.alloc (.cells cs.toArray bt))) (hH : Holds w0 D w R H)
    (k : ∀ b w', w0.heap.size ≤ b → Holds w0 D w' R (.pt b bt cs :: H) → wpList P ops.toArray Q rest (A n ((d, vf b) :: l) f) w') :
    wpList P ops.toArray Q (⟨some d, .call ⟨.value (.func g), xs.toArray, ts⟩, ty, pos, aft, none⟩ :: rest) (A n l f) w :=
  r_val rfl rfl ((run_call_fn hx.eq rfl).trans (hr w)) (k _ _ hH.size (hH.alloc cs bt))
theorem run_invoke {ρ : Operand → Value} (hx : xs.map ρ = args) (hf : ρ x = recv) : (execOp ρ ⟨some d, .call ⟨.invoke x nm, xs.toArray, ts⟩, ty, pos, aft, none⟩).run P w = (callMethod recv nm args.toArray).run P w := by
  have h1 : (xs.toArray.map ρ) = args.toArray := by rw [← hx]; simp
  simp only [execOp, resolve, h1, hf, Sem.run_bind, Sem.run_pure, Result.andThen_ok, invoke]
  have h2 : (#[recv] ++ args.toArray)[0]? = some recv := by simp
  rw [h2]
  have h3 : (#[recv] ++ args.toArray).extract 1 = args.toArray := by
    apply Array.ext'
    simp
  simp only [h3]
theorem i_val (hf : EvK n l f x recv) (hx : EvL n l f xs args) (hr : (callMethod recv nm args.toArray).run P w = .ok (.value v) w')
    (k : wpList P ops.toArray Q rest (A n ((d, v) :: l) f) w') : wpList P ops.toArray Q (⟨some d, .call ⟨.invoke x nm, xs.toArray, ts⟩, ty, pos, aft, none⟩ :: rest) (A n l f) w :=
  r_val rfl rfl ((run_invoke hx.eq hf.eq).trans hr) k
theorem i_call {args' : List Value} {Re : List Ro} {Hf Hr : List Own} {T : Value → List Own → Prop} (hf : EvK n l f x recv) (hx : EvL n l f xs args) (hr : (callMethod recv nm args.toArray).run P w = .ok (.enter g args'.toArray) w)
    (hH : Holds w0 D w R H) (hc : CallsA P g args'.toArray Re Hf T) (hp : Take H Hf Hr) (hrr : ReadsAll w R Hr Re)
    (k : ∀ v H' w', T v H' → Holds w0 D w' R (H' ++ Hr) → wpList P ops.toArray Q rest (A n ((d, v) :: l) f) w') : wpList P ops.toArray Q (⟨some d, .call ⟨.invoke x nm, xs.toArray, ts⟩, ty, pos, aft, none⟩ :: rest) (A n l f) w :=
  r_callW rfl rfl ((run_invoke hx.eq hf.eq).trans hr) (hc.use (hH.perm hp.perm) hrr.all) (fun e w' ⟨v, H', he, ht, hh⟩ => ⟨v, he, k v H' w' ht hh⟩)
theorem p_assert {ok : Bool} (hf : EvK n l f x recv) (hr : ∀ w, (Instr.typeAssert recv t u ok).run P w = .ok v w)
    (k : wpList P ops.toArray Q rest (A n ((d, v) :: l) f) w) : wpList P ops.toArray Q (⟨some d, .typeAssert x t u ok, ty, pos, aft, none⟩ :: rest) (A n l f) w :=
  r_val rfl rfl (by have h1 := hf.eq; have h2 := hr w; simp [execOp, h1, h2]) k
end
end Go.Hr

/- Rules of memory whose new cells are written out by an equation. -/
namespace Go.Hr
open Go Go.RowKit
section
variable {P : Program} {ops rest : List Oper} {Q : Exit → Act → World → Prop} {n : Nat} {l : List (Nat × Value)} {f : Nat → Value} {w w' w0 : World}
  {d : Nat} {ty : TypeId} {pos : String} {aft : Array Edge} {D : List Nat} {R : List Ro} {H H' : List Own}
  {x y : Operand} {t u e bt : TypeId} {z v : Value} {g i m sz by_ o io : Nat} {cs vs cs' : List Value}
theorem n_fieldAddr [ft : Fo P t m o] (hx : ev n l f x = .pointer (some ⟨g, i, none⟩)) (hio : i + o = io) (k : wpList P ops.toArray Q rest (A n ((d, .pointer (some ⟨g, io, none⟩)) :: l) f) w) :
    wpList P ops.toArray Q (⟨some d, .fieldAddr t x m, ty, pos, aft, none⟩ :: rest) (A n l f) w := p_fieldAddr hx (by rw [hio]; exact k)
theorem n_loadA [ft : Ag P t] [hi : In P t z sz by_] (hH : Holds w0 D w R H) (hx : ev n l f x = .pointer (some ⟨g, i, none⟩)) [s : SelP H g bt cs H'] (hl : Nat.ble (i + sz) cs.length = true) (hv : (cs.drop i).take sz = vs)
    (k : wpList P ops.toArray Q rest (A n ((d, .agg vs.toArray) :: l) f) w) :
    wpList P ops.toArray Q (⟨some d, .load t x, ty, pos, aft, none⟩ :: rest) (A n l f) w := p_loadA hH hx (Nat.le_of_ble_eq_true hl) (by rw [hv]; exact k)
theorem n_store [hi : In P t z 1 by_] (hH : Holds w0 D w R H) (hx : ev n l f x = .pointer (some ⟨g, i, none⟩)) (hy : EvK n l f y v) (h1 : v.oneCell' = true) [s : SelP H g bt cs H'] (hl : Nat.blt i cs.length = true) (hc : cs.set i v = cs')
    (k : ∀ w', Holds w0 D w' R (.pt g bt cs' :: H') → wpList P ops.toArray Q rest (A n l f) w') :
    wpList P ops.toArray Q (⟨none, .store t x y, ty, pos, aft, none⟩ :: rest) (A n l f) w := k_store hH hx hy h1 hl (by rw [hc]; exact k)
theorem n_storeA [hi : In P t z sz by_] (hH : Holds w0 D w R H) (hx : ev n l f x = .pointer (some ⟨g, i, none⟩)) (hy : ev n l f y = .agg vs.toArray) [s : SelP H g bt cs H'] (h1 : vs.all Value.oneCell' = true) (hn : vs.length = sz) (hl : Nat.ble (i + vs.length) cs.length = true)
    (hc : cs.take i ++ vs ++ cs.drop (i + vs.length) = cs')
    (k : ∀ w', Holds w0 D w' R (.pt g bt cs' :: H') → wpList P ops.toArray Q rest (A n l f) w') :
    wpList P ops.toArray Q (⟨none, .store t x y, ty, pos, aft, none⟩ :: rest) (A n l f) w := p_storeA hH hx hy h1 hn (Nat.le_of_ble_eq_true hl) (by rw [hc]; exact k)
theorem n_alloc [hi : In P t z sz by_] (hH : Holds w0 D w R H) (hz : celL z = cs) (k : ∀ g w', w0.heap.size ≤ g → Holds w0 D w' R (.pt g t cs :: H) → wpList P ops.toArray Q rest (A n ((d, .pointer (some ⟨g, 0, none⟩)) :: l) f) w') :
    wpList P ops.toArray Q (⟨some d, .alloc t, ty, pos, aft, none⟩ :: rest) (A n l f) w := p_alloc hH ((celL_eq z).trans hz) k
theorem n_build {parts : List (Nat × Operand)} {vals : List (Nat × Value)} {pl : List (Nat × Nat)} {zs : List Value} [ft : Plc P t pl.toArray] [hi : In P t (.agg zs.toArray) sz by_]
    (hv : EvP n l f parts vals) (hok : fillOk pl zs.length vals = true) (hc : fillL pl zs vals = cs)
    (k : wpList P ops.toArray Q rest (A n ((d, .agg cs.toArray) :: l) f) w) :
    wpList P ops.toArray Q (⟨some d, .build t parts.toArray, ty, pos, aft, none⟩ :: rest) (A n l f) w := k_build hv hok (by rw [hc]; exact k)
end
end Go.Hr

/- What is read of the package's variables. -/
namespace Go.Hr
open Go Go.RowKit
structure Glob where
  m : Int
  te : Nat
  tr : Nat
  ve : Value
  vr : Value
def gErrT : Ro := ⟨some ⟨0, 0, none⟩, 1, 1, [.iface 192 (.agg (List.toArray [.pointer (some ⟨9, 89, none⟩)]))], none⟩
def gPow : Ro := ⟨some ⟨1, 0, none⟩, 1, 20, Lib.pow10Tab.map fun z => .int .u64 z, some (Lib.pow10Tab.map fun z => Value.int .u64 z).toArray⟩
def gMax (G : Glob) : Ro := ⟨some ⟨2, 0, none⟩, 1, 1, [.int .i64 G.m], none⟩
def gSyn (G : Glob) : Ro := ⟨some ⟨7, 0, none⟩, 1, 1, [.iface G.te G.ve], none⟩
def gRan (G : Glob) : Ro := ⟨some ⟨8, 0, none⟩, 1, 1, [.iface G.tr G.vr], none⟩
def GL (G : Glob) : List Ro := [gErrT, gPow, gMax G, gSyn G, gRan G]
theorem gErrT_mem (G : Glob) : gErrT ∈ GL G := by simp [GL]
theorem gPow_mem (G : Glob) : gPow ∈ GL G := by simp [GL]
theorem gMax_mem (G : Glob) : gMax G ∈ GL G := by simp [GL]
theorem gSyn_mem (G : Glob) : gSyn G ∈ GL G := by simp [GL]
theorem gRan_mem (G : Glob) : gRan G ∈ GL G := by simp [GL]
theorem ReadsAll.sub {w : World} {R R' : List Ro} {Hr : List Own} (h : ∀ r ∈ R', r ∈ R) : ReadsAll w R Hr R' := by
  induction R' with
  | nil => exact .nil
  | cons r R' ih => exact .cons (.ro (h r (by simp))) (ih fun x hx => h x (by simp [hx]))
theorem ReadsAll.same {w : World} {R : List Ro} {Hr : List Own} : ReadsAll w R Hr R := .sub fun _ h => h
theorem ReadsAll.skip {w : World} {R R' : List Ro} {Hr : List Own} {r : Ro} (h : ReadsAll w R Hr R') : ReadsAll w (r :: R) Hr R' := by
  induction h with
  | nil => exact .nil
  | cons h _ ih =>
    refine .cons ?_ ih
    cases h with
    | ro h => exact .ro (List.mem_cons_of_mem _ h)
    | own h => exact .own (v := .nilIface) h
    | none_ => exact .none_
    | fz h hy hx => exact .fz h hy hx
    | roSub h hk => exact .roSub (List.mem_cons_of_mem _ h) hk
    | ownSub h hk => exact .ownSub h hk
section
variable {P : Program} {ops rest : List Oper} {Q : Exit → Act → World → Prop} {n : Nat} {l : List (Nat × Value)} {f : Nat → Value} {w w' w0 : World}
  {d : Nat} {ty : TypeId} {pos : String} {aft : Array Edge} {D : List Nat} {R : List Ro} {H H' : List Own}
  {x y : Operand} {t u e bt : TypeId} {z v : Value} {g i m sz by_ o io : Nat} {cs vs cs' : List Value}
theorem cell_ro {b : Nat} {r : Ro} (hH : Holds w0 D w R H) (hr : r ∈ R) (ha : r.a = some ⟨b, 0, none⟩) (hn : Nat.blt 0 r.n = true) {i : Nat} (hv : r.xs[i]? = some v) : w.cell? ⟨b, i, none⟩ = some v := by
  obtain ⟨ad, ha', _, hc⟩ := (hH.ro r hr).1.2 (Nat.blt_eq.mp hn)
  rw [ha] at ha'; injection ha' with e; subst e
  have := hc i v hv
  simpa [Addr.add_lit] using this
theorem p_loadG [ft : Fl P t] {b : Nat} {r : Ro} (hH : Holds w0 D w R H) (hx : ev n l f x = .pointer (some ⟨b, 0, none⟩)) (hr : r ∈ R) (ha : r.a = some ⟨b, 0, none⟩) (hn : Nat.blt 0 r.n = true) (hv : r.xs[0]? = some v)
    (k : wpList P ops.toArray Q rest (A n ((d, v) :: l) f) w) :
    wpList P ops.toArray Q (⟨some d, .load t x, ty, pos, aft, none⟩ :: rest) (A n l f) w := by
  obtain ⟨td, ht, hf⟩ := ft.h
  exact r_loadR (i := 0) ht hf (by rw [hx]; simp [Addr.add]) hH hr ha (Nat.blt_eq.mp hn) hv k
theorem whole_ro {b : Nat} {r : Ro} (hH : Holds w0 D w R H) (hr : r ∈ R) (ha : r.a = some ⟨b, 0, none⟩) {cs : Array Value} (hc : r.whole = some cs) : ∃ t fr, w.heap[b]? = some (.cells cs t fr) := by
  obtain ⟨_, ad, t, fr, ha', hb⟩ := (hH.ro r hr).1.1.2 cs hc
  rw [ha] at ha'; injection ha' with e; subst e
  exact ⟨t, fr, hb⟩
end
end Go.Hr

/- Regions that draw, told by lists: what may come next is found by plain reduction, and checked by the kernel. -/
namespace Go.Hr
open Go Go.RowKit
def getB : List Bool → Nat → Bool
  | [], _ => false
  | b :: _, 0 => b
  | _ :: r, n + 1 => getB r n
def getO : List Oper → Nat → Option Oper
  | [], _ => none
  | b :: _, 0 => some b
  | _ :: r, n + 1 => getO r n
theorem getO_eq : ∀ (l : List Oper) (i : Nat), getO l i = l[i]?
  | [], i => by simp [getO]
  | a :: l, 0 => by simp [getO]
  | a :: l, i + 1 => by simpa [getO] using getO_eq l i
def edges (done : List Bool) : List Edge → Bool
  | [] => true
  | e :: r => match Region.binds .any e with
    | false => edges done r
    | true => match getB done e.on with
      | true => edges done r
      | false => false
/-- What may come next. -/
def rdyL (done : List Bool) : List Oper → List Bool → Nat → List Nat
  | o :: r, false :: d, k => match edges done o.after.toList with
    | true => k :: rdyL done r d (k + 1)
    | false => rdyL done r d (k + 1)
  | _ :: r, true :: d, k => rdyL done r d (k + 1)
  | _, _, _ => []
def firstVal (ops : List Oper) : List Nat → Option Nat
  | [] => none
  | i :: r => match getO ops i with
    | some o => match isVal o.op with
      | true => some i
      | false => firstVal ops r
    | none => firstVal ops r
def setB : List Bool → Nat → List Bool
  | [], _ => []
  | _ :: r, 0 => true :: r
  | b :: r, n + 1 => b :: setB r n
theorem setB_eq : ∀ (l : List Bool) (i : Nat), l.toArray.setIfInBounds i true = (setB l i).toArray := by
  intro l i
  rw [List.setIfInBounds_toArray]
  congr 1
  induction l generalizing i with
  | nil => rfl
  | cons b l ih => cases i with
    | zero => rfl
    | succ i => simp [setB, ih]
def falses : List Oper → List Bool
  | [] => []
  | _ :: r => false :: falses r
theorem falses_eq (l : List Oper) : Array.replicate l.length false = (falses l).toArray := by
  apply Array.ext'
  simp only [Array.toList_replicate]
  induction l with
  | nil => rfl
  | cons a l ih => simp [falses, List.replicate_succ, ih]
section
variable {P : Program} {ops rest : List Oper} {Q : Exit → Act → World → Prop} {n : Nat} {l : List (Nat × Value)} {f : Nat → Value} {w w' w0 : World}
  {d i : Nat} {ty : TypeId} {pos : String} {aft : Array Edge} {D : List Nat} {R : List Ro} {H H' : List Own} {v : Value} {S : World → Prop} {done done' : List Bool} {mm : Nat} {o : Oper}
theorem c_cond_tA {x : Operand} {a b : Code} {t : Bool} (hx : ev n l f x = .bool t) (ht : t = true) (kt : a.wp P Q (A n l f) w) : (Code.cond x a b).wp P Q (A n l f) w :=
  c_cond_t (by rw [hx, ht]) kt
theorem c_cond_fA {x : Operand} {a b : Code} {t : Bool} (hx : ev n l f x = .bool t) (ht : t = false) (kf : b.wp P Q (A n l f) w) : (Code.cond x a b).wp P Q (A n l f) w :=
  c_cond_f (by rw [hx, ht]) kf
theorem d_start {l' : List Oper} {id : Nat} [m : Mixed P] (hH : Holds w0 D w R H)
    (k : Holds w0 D w.drew R H → wpAnyH P .any l'.toArray (Well Q) (fun w' => Holds w0 D w' R H) l'.length (falses l').toArray (A n l f) w.drew) : (Code.region id l'.toArray true).wp P Q (A n l f) w :=
  c_drawH hH fun h => by rw [falses_eq]; exact k h
theorem d_next (hi : firstVal ops (rdyL done ops done 0) = some i) (ho : getO ops i = some o) (hd : o.dst = some d) (hok : ok_take ops done.toArray n i d = true) (hs : setB done i = done') (hS : S w)
    (h : ∀ w, S w → wpList P ops.toArray (One ((d, v) :: l) f n w) [o] (A n l f) w)
    (k : wpAnyH P .any ops.toArray (Well Q) S mm done'.toArray (A n ((d, v) :: l) f) w) : wpAnyH P .any ops.toArray (Well Q) S (mm + 1) done.toArray (A n l f) w := by
  have _ := hi
  rw [getO_eq] at ho
  simp only [ok_take, ho, Option.map_some, Option.getD_some, Bool.and_eq_true] at hok
  obtain ⟨⟨⟨⟨h1, h2⟩, h3⟩, h4⟩, h5, _⟩ := hok
  exact h_take ho h5 hd h4 h1 h2 h3 hS h (by rw [setB_eq, hs]; exact k)
theorem d_all1 {a : Nat} {oa : Oper} {da : List Bool} (_h1 : rdyL done ops done 0 = [a]) (hr : Region.ready .any ops.toArray done.toArray = [a]) (ho : getO ops a = some oa) (hs : setB done a = da)
    (h : wpList P ops.toArray (Then P ops Q S mm da.toArray) [oa] (A n l f) w) : wpAnyH P .any ops.toArray (Well Q) S (mm + 1) done.toArray (A n l f) w :=
  h_all hr (by simp) (all1 ⟨_, by rw [← getO_eq]; exact ho, by rw [setB_eq, hs]; exact h⟩)
theorem d_all2 {a b : Nat} {oa ob : Oper} {da db : List Bool} (_h1 : rdyL done ops done 0 = [a, b]) (hr : Region.ready .any ops.toArray done.toArray = [a, b]) (ho : getO ops a = some oa) (hs : setB done a = da) (ho' : getO ops b = some ob) (hs' : setB done b = db)
    (h : wpList P ops.toArray (Then P ops Q S mm da.toArray) [oa] (A n l f) w) (h' : wpList P ops.toArray (Then P ops Q S mm db.toArray) [ob] (A n l f) w) : wpAnyH P .any ops.toArray (Well Q) S (mm + 1) done.toArray (A n l f) w :=
  h_all hr (by simp) (all2 ⟨_, by rw [← getO_eq]; exact ho, by rw [setB_eq, hs]; exact h⟩ ⟨_, by rw [← getO_eq]; exact ho', by rw [setB_eq, hs']; exact h'⟩)
theorem d_all3 {a b c : Nat} {oa ob oc : Oper} {da db dc : List Bool} (_h1 : rdyL done ops done 0 = [a, b, c]) (hr : Region.ready .any ops.toArray done.toArray = [a, b, c]) (ho : getO ops a = some oa) (hs : setB done a = da) (ho' : getO ops b = some ob) (hs' : setB done b = db) (ho'' : getO ops c = some oc) (hs'' : setB done c = dc)
    (h : wpList P ops.toArray (Then P ops Q S mm da.toArray) [oa] (A n l f) w) (h' : wpList P ops.toArray (Then P ops Q S mm db.toArray) [ob] (A n l f) w) (h'' : wpList P ops.toArray (Then P ops Q S mm dc.toArray) [oc] (A n l f) w) : wpAnyH P .any ops.toArray (Well Q) S (mm + 1) done.toArray (A n l f) w :=
  h_all hr (by simp) (all3 ⟨_, by rw [← getO_eq]; exact ho, by rw [setB_eq, hs]; exact h⟩ ⟨_, by rw [← getO_eq]; exact ho', by rw [setB_eq, hs']; exact h'⟩ ⟨_, by rw [← getO_eq]; exact ho'', by rw [setB_eq, hs'']; exact h''⟩)
theorem d_done (_h1 : rdyL done ops done 0 = []) (hr : Region.ready .any ops.toArray done.toArray = []) (k : Q .normal (A n l f) w) : wpAnyH P .any ops.toArray (Well Q) S mm done.toArray (A n l f) w := h_done hr k
theorem d_split {j e : Nat} {t b : Bool} (hi : firstVal ops (rdyL done ops done 0) = some i) (ho : getO ops i = some o) (hg : o.guard = some (j, t)) (hj : (getO ops j).bind (·.dst) = some e) (hb : lk l f e = .bool b)
    (kt : b = true → wpAnyH P .any ops.toArray (Well Q) S mm done.toArray (A n l f) w) (kf : b = false → wpAnyH P .any ops.toArray (Well Q) S mm done.toArray (A n l f) w) : wpAnyH P .any ops.toArray (Well Q) S mm done.toArray (A n l f) w := by
  have _ := hi; have _ := ho; have _ := hg; have _ := hj; have _ := hb
  cases b
  · exact kf rfl
  · exact kt rfl
end
end Go.Hr

/- Slices: append, loads of bytes, texts out of bytes. -/
namespace Go.Hr
open Go Go.RowKit
/-- a slice at the start of a block, told by its block -/
class SelB (H : List Own) (g : Nat) (n c e sz : outParam Nat) (xs : outParam (List Value)) (H' : outParam (List Own)) : Prop where h : Sel H (.sl (.slice (some ⟨g, 0, none⟩) n c) e sz n xs) H'
instance selBHere (g n c e sz : Nat) (xs : List Value) (H : List Own) : SelB (.sl (.slice (some ⟨g, 0, none⟩) n c) e sz n xs :: H) g n c e sz xs H := ⟨.here _ _⟩
instance (priority := low) selBThere (x : Own) (g n c e sz : Nat) (xs : List Value) (H H' : List Own) [s : SelB H g n c e sz xs H'] : SelB (x :: H) g n c e sz xs (x :: H') := ⟨.there s.h⟩
/-- what is read, told by its place -/
class InR (R : List Ro) (a : Addr) (sz n : outParam Nat) (xs : outParam (List Value)) : Prop where h : ∃ wh, (⟨some a, sz, n, xs, wh⟩ : Ro) ∈ R
instance inRHere (a : Addr) (sz n : Nat) (xs : List Value) (wh : Option (Array Value)) (R : List Ro) : InR (⟨some a, sz, n, xs, wh⟩ :: R) a sz n xs := ⟨wh, by simp⟩
instance (priority := low) inRThere (r : Ro) (a : Addr) (sz n : Nat) (xs : List Value) (R : List Ro) [s : InR R a sz n xs] : InR (r :: R) a sz n xs := ⟨by obtain ⟨wh, h⟩ := s.h; exact ⟨wh, List.mem_cons_of_mem _ h⟩⟩
section
variable {P : Program} {ops rest : List Oper} {Q : Exit → Act → World → Prop} {n : Nat} {l : List (Nat × Value)} {f : Nat → Value} {w w' w0 : World}
  {d i : Nat} {ty t e : TypeId} {pos : String} {aft : Array Edge} {D : List Nat} {R : List Ro} {H H' : List Own} {x y s : Operand} {v z u : Value} {g m m' c sz by_ : Nat} {xs ys : List Value} {a : Addr} {A' : Option Addr}
theorem bytes_at {bs : List UInt8} (h : i < bs.length) : (bytesV bs)[i]? = some (.int .u8 ((bs.getD i 0).toNat : Int)) := by
  simp [bytesV, List.getElem?_eq_getElem h, List.getD, h]
theorem p_append [ft : Sli P t e] [hi : In P e z sz by_] (hH : Holds w0 D w R H) (hs : EvK n l f s v) (hx : ev n l f x = .slice A' m' c) [sel : SelS H v e sz m xs H'] (hr : Reads1 w R H' ⟨A', sz, m', ys, none⟩) (hzs : z.cells.size = sz) (hsz : Nat.blt 0 sz = true)
    (h1 : ys.all Value.oneCell' = true) (h63 : m + m' ≤ 1099511627776) (hby : Nat.ble by_ 64 = true)
    (k : ∀ v' w', Holds w0 D w' R (.sl v' e sz (m + m') (xs ++ ys) :: H') → wpList P ops.toArray Q rest (A n ((d, v') :: l) f) w') :
    wpList P ops.toArray Q (⟨some d, .call ⟨.builtin .append, #[s, x], #[t, t]⟩, ty, pos, aft, none⟩ :: rest) (A n l f) w :=
  r_append ft.h hi.h hzs (Nat.blt_eq.mp hsz) hs.eq hx hH sel.h hr (by simpa using h1) h63 (Nat.le_of_ble_eq_true hby) k
theorem p_appendL {B' : Option Addr} {m0 c0 : Nat} [ft : Sli P t e] [hi : In P e z sz by_] (hH : Holds w0 D w R H) (hs : ev n l f s = .slice B' m0 c0) (hx : ev n l f x = .slice A' m' c) [sel : SelS H (.slice B' m0 c0) e sz m xs H'] (hr : Reads1 w R H' ⟨A', sz, m', ys, none⟩) (hzs : Nat.beq z.cells.size sz = true) (hsz : Nat.blt 0 sz = true)
    (h1 : ys.all Value.oneCell' = true) (h63 : m + m' ≤ 1099511627776) (hby : Nat.ble by_ 64 = true)
    (k : ∀ B'' c'' w', Holds w0 D w' R (.sl (.slice B'' (m + m') c'') e sz (m + m') (xs ++ ys) :: H') → wpList P ops.toArray Q rest (A n ((d, .slice B'' (m + m') c'') :: l) f) w') :
    wpList P ops.toArray Q (⟨some d, .call ⟨.builtin .append, #[s, x], #[t, t]⟩, ty, pos, aft, none⟩ :: rest) (A n l f) w :=
  p_append hH (.any hs) hx hr (Nat.eq_of_beq_eq_true hzs) hsz h1 h63 hby fun v' w' h => by
    obtain ⟨B'', c'', rfl, _, _⟩ := h.form0 (.here _ _)
    exact k B'' c'' w' h
theorem p_appendNil [ft : Sli P t e] [hi : In P e z sz by_] (hH : Holds w0 D w R H) (hs : ev n l f s = .slice none 0 0) (hx : ev n l f x = .slice A' m' c) (hr : Reads1 w R H ⟨A', sz, m', ys, none⟩) (hzs : Nat.beq z.cells.size sz = true) (hsz : Nat.blt 0 sz = true)
    (h1 : ys.all Value.oneCell' = true) (h63 : m' ≤ 1099511627776) (hby : Nat.ble by_ 64 = true)
    (k : ∀ B'' c'' w', Holds w0 D w' R (.sl (.slice B'' m' c'') e sz m' ys :: H) → wpList P ops.toArray Q rest (A n ((d, .slice B'' m' c'') :: l) f) w') :
    wpList P ops.toArray Q (⟨some d, .call ⟨.builtin .append, #[s, x], #[t, t]⟩, ty, pos, aft, none⟩ :: rest) (A n l f) w :=
  r_append (m := 0) (xs := []) ft.h hi.h (Nat.eq_of_beq_eq_true hzs) (Nat.blt_eq.mp hsz) hs hx (hH.nil_ e sz) (.here _ _) hr (by simpa using h1) (by omega) (Nat.le_of_ble_eq_true hby) fun v' w' h => by
    have h : Holds w0 D w' R (.sl v' e sz m' ys :: H) := by simpa using h
    obtain ⟨B'', c'', rfl, _, _⟩ := h.form0 (.here _ _)
    exact k B'' c'' w' h
/-- a byte of what is owned -/
theorem p_loadSB [ft : Fl P t] {bs : List UInt8} (hH : Holds w0 D w R H) (hx : ev n l f x = .pointer (some ((⟨g, 0, none⟩ : Addr).add i))) [s : SelB H g m c e sz xs H'] (hxs : xs = bytesV bs) (hlt : i < bs.length)
    (k : wpList P ops.toArray Q rest (A n ((d, .int .u8 ((bs.getD i 0).toNat : Int)) :: l) f) w) :
    wpList P ops.toArray Q (⟨some d, .load t x, ty, pos, aft, none⟩ :: rest) (A n l f) w := by
  obtain ⟨td, ht, hf⟩ := ft.h
  exact r_loadS ht hf hx hH s.h (by rw [hxs]; exact bytes_at hlt) k
/-- a byte of what is read -/
theorem p_loadRB [ft : Fl P t] {bs : List UInt8} (hH : Holds w0 D w R H) (hx : ev n l f x = .pointer (some (a.add i))) [s : InR R a sz m xs] (hxs : xs = bytesV bs) (hm : 0 < m) (hlt : i < bs.length)
    (k : wpList P ops.toArray Q rest (A n ((d, .int .u8 ((bs.getD i 0).toNat : Int)) :: l) f) w) :
    wpList P ops.toArray Q (⟨some d, .load t x, ty, pos, aft, none⟩ :: rest) (A n l f) w := by
  obtain ⟨td, ht, hf⟩ := ft.h
  obtain ⟨wh, hr⟩ := s.h
  exact r_loadR ht hf hx hH hr rfl hm (by rw [hxs]; exact bytes_at hlt) k
/-- one cell of a slice that is owned -/
theorem p_loadS [ft : Fl P t] (hH : Holds w0 D w R H) (hx : ev n l f x = .pointer (some ((⟨g, 0, none⟩ : Addr).add i))) [s : SelB H g m c e sz xs H'] (hv : xs[i]? = some v)
    (k : wpList P ops.toArray Q rest (A n ((d, v) :: l) f) w) :
    wpList P ops.toArray Q (⟨some d, .load t x, ty, pos, aft, none⟩ :: rest) (A n l f) w := by
  obtain ⟨td, ht, hf⟩ := ft.h
  exact r_loadS ht hf hx hH s.h hv k
/-- the text of the first bytes of a slice that is owned -/
theorem p_toTextS {s' : TypeId} {bs la : List UInt8} {mm cc : Nat} [hs : Sli P s' e] [ht : Str P t] [he : Itg P e .u8] (hH : Holds w0 D w R H) (hx : ev n l f x = .slice (some ⟨g, 0, none⟩) mm cc) [sel : SelB H g m c e 1 xs H'] (hxs : xs = bytesV bs) (hmm : mm ≤ m) (hla : bs.take mm = la)
    (k : wpList P ops.toArray Q rest (A n ((d, .string ⟨la.toArray⟩) :: l) f) w) :
    wpList P ops.toArray Q (⟨some d, .convert s' t x, ty, pos, aft, none⟩ :: rest) (A n l f) w := by
  refine r_toText (la := la) hs.h ht.h he.h hx hH ?_ k
  have := Reads1.ownSub (w := w) (R := R) (Hr := H) (k := 0) (m := mm) sel.h.mem (by omega)
  rw [hxs] at this
  simp only [Nat.zero_mul, List.drop_zero, Nat.mul_one] at this
  have e1 : ((⟨g, 0, none⟩ : Addr).add 0) = ⟨g, 0, none⟩ := by simp [Addr.add]
  rw [e1] at this
  have e2 : (bytesV bs).take mm = bytesV la := by rw [← hla]; simp [bytesV]
  rw [e2] at this
  exact this
theorem p_toTextN {s' : TypeId} {cc : Nat} [hs : Sli P s' e] [ht : Str P t] [he : Itg P e .u8] (hH : Holds w0 D w R H) (hx : ev n l f x = .slice A' 0 cc)
    (k : wpList P ops.toArray Q rest (A n ((d, .string ⟨([] : List UInt8).toArray⟩) :: l) f) w) :
    wpList P ops.toArray Q (⟨some d, .convert s' t x, ty, pos, aft, none⟩ :: rest) (A n l f) w :=
  r_toText (la := []) hs.h ht.h he.h hx hH .none_ k
theorem n_buildSlice1 [ft : Sli P t e] [hi : In P e z sz by_] (hH : Holds w0 D w R H) (hx : EvK n l f x v) (hs : Nat.beq (celL v).length sz = true) (h0 : Nat.blt 0 sz = true) (h2 : Nat.ble sz 16777216 = true) (hz : Nat.beq z.cells.size sz = true) (hxs : celL v = xs)
    (k : ∀ g w', w0.heap.size ≤ g → Holds w0 D w' R (.sl (.slice (some ⟨g, 0, none⟩) 1 1) e sz 1 xs :: H) → wpList P ops.toArray Q rest (A n ((d, .slice (some ⟨g, 0, none⟩) 1 1) :: l) f) w') :
    wpList P ops.toArray Q (⟨some d, .buildSlice t 1 #[(0, x)], ty, pos, aft, none⟩ :: rest) (A n l f) w :=
  k_buildSlice1 hH hx (Nat.eq_of_beq_eq_true hs) (Nat.blt_eq.mp h0) (Nat.le_of_ble_eq_true h2) (Nat.eq_of_beq_eq_true hz) (by rw [hxs]; exact k)
theorem d_startS {l' : List Oper} {id : Nat} {Hs : List Own} {P : Program} {Q : Exit → Act → World → Prop} [mx : Mixed P] (hH : Holds w0 D w R H) (_sub : Sub H Hs)
    (k : Holds w0 D w.drew R H → wpAnyH P .any l'.toArray (Well Q) (fun w' => Holds w0 D w' R Hs) l'.length (falses l').toArray (A n l f) w.drew) : (Code.region id l'.toArray true).wp P Q (A n l f) w :=
  c_draw _ mx.h (by rw [falses_eq]; exact k hH.drew)
theorem r_passU {op : Op} {j e' : Nat} {b' : Bool} (hj : (ops[j]?).bind (·.dst) = some e') (hn : Nat.blt e' n = true) (hb : lk l f e' = undef)
    (k : wpList P ops.toArray Q rest (A n ((d, undef) :: l) f) w) :
    wpList P ops.toArray Q (⟨some d, op, ty, pos, aft, some (j, b')⟩ :: rest) (A n l f) w := by
  have hy : yielded ops.toArray (A n l f).tmps j = none := by
    unfold yielded
    have : (ops.toArray[j]?).bind (·.dst) = some e' := by simpa using hj
    rw [this]
    simp only [Option.bind_some, A_tmp n l f e' hn, hb]
    rfl
  have hw : ¬ Region.wanted ⟨some d, op, ty, pos, aft, some (j, b')⟩ (yielded ops.toArray (A n l f).tmps) = true := by
    simp [Region.wanted, hy]
  unfold wpList
  rw [if_neg hw, A_put]
  exact k
theorem g_conv' {s' : TypeId} (k : wpList P ops.toArray Q (⟨some d, .convert s' t x, ty, pos, aft, none⟩ :: rest) (A n l f) w) : wpList P ops.toArray Q (⟨some d, .convert s' t x, ty, pos, aft, none⟩ :: rest) (A n l f) w := k
end
end Go.Hr
