import Derived.Test.YtiofekhdicfmoaaGreatDoorMJ
import Derived.Test.YtiofekhdicfmoaaGreatDoorMI
import Derived.Deep.SlicePairs
import Derived.Lib.ItoaLen
set_option linter.all false
/- A head as an argument, opened: a struct of seven one-cell fields, the last a slice of pairs of strings. -/
namespace Go.Proofs.YtiofekhdicfmoaaGreatDoor
open Go Go.Hr Go.ChangeShapes Go.WideShapes Go.ChangeAt Go.RowKit Go.Deep
set_option linter.all false
set_option maxRecDepth 8000
section
variable {H : Type} {enc : TypeId × Value → H} {P : Program} {w : World} {base : Nat} {spare : Nat → Bool} {held : Bool}
theorem array7 {α : Type} {cs : Array α} (h : cs.size = 7) : ∃ c0 c1 c2 c3 c4 c5 c6, cs = #[c0, c1, c2, c3, c4, c5, c6] := by
  obtain ⟨l⟩ := cs
  match l, h with
  | [c0, c1, c2, c3, c4, c5, c6], _ => exact ⟨c0, c1, c2, c3, c4, c5, c6, rfl⟩
theorem open_agg7 {r : Reach} {b0 : Nat} {t : TypeId} {f0 f1 f2 f3 f4 f5 f6 : Field} {v : Value} {d : DataW H} {p : List MemPlace} (hs : P.underlying t = some (.struct #[f0, f1, f2, f3, f4, f5, f6])) (hone : oneCellFields P #[f0, f1, f2, f3, f4, f5, f6] = true) (hC : P.cellsOf t = 7)
    (hv : Value.okWide P w r b0 t v) (h : DataW.Trod enc P w base spare held t v d p) :
    ∃ (v0 v1 v2 v3 v4 v5 v6 : Value) (y0 y1 y2 y3 y4 y5 y6 : DataW H × List MemPlace) (n : Nat), v = .agg #[v0, v1, v2, v3, v4, v5, v6] ∧ d = .agg [y0.1, y1.1, y2.1, y3.1, y4.1, y5.1, y6.1] ∧ p = y0.2 ++ (y1.2 ++ (y2.2 ++ (y3.2 ++ (y4.2 ++ (y5.2 ++ (y6.2)))))) ∧
      DataW.trod enc P w base spare held n f0.type [v0] = some y0 ∧ DataW.trod enc P w base spare held n f1.type [v1] = some y1 ∧ DataW.trod enc P w base spare held n f2.type [v2] = some y2 ∧ DataW.trod enc P w base spare held n f3.type [v3] = some y3 ∧ DataW.trod enc P w base spare held n f4.type [v4] = some y4 ∧ DataW.trod enc P w base spare held n f5.type [v5] = some y5 ∧ DataW.trod enc P w base spare held n f6.type [v6] = some y6 := by
  obtain ⟨cs, rfl, hsz⟩ := okWide_struct hs hv
  obtain ⟨c0, c1, c2, c3, c4, c5, c6, rfl⟩ := array7 (hsz.trans hC)
  obtain ⟨fuel, hf⟩ := h
  obtain ⟨xs, n, _, hx, hl, hlen, hf⟩ := DataW.trod_struct hs hf
  match xs, hlen with
  | [y0, y1, y2, y3, y4, y5, y6], _ =>
    obtain ⟨o0, k0⟩ := hone_of hone 0 f0 rfl
    obtain ⟨o1, k1⟩ := hone_of hone 1 f1 rfl
    obtain ⟨o2, k2⟩ := hone_of hone 2 f2 rfl
    obtain ⟨o3, k3⟩ := hone_of hone 3 f3 rfl
    obtain ⟨o4, k4⟩ := hone_of hone 4 f4 rfl
    obtain ⟨o5, k5⟩ := hone_of hone 5 f5 rfl
    obtain ⟨o6, k6⟩ := hone_of hone 6 f6 rfl
    have g0 := hf 0 f0 rfl
    have g1 := hf 1 f1 rfl
    have g2 := hf 2 f2 rfl
    have g3 := hf 3 f3 rfl
    have g4 := hf 4 f4 rfl
    have g5 := hf 5 f5 rfl
    have g6 := hf 6 f6 rfl
    simp only [Prod.mk.injEq] at hx
    exact ⟨c0, c1, c2, c3, c4, c5, c6, y0, y1, y2, y3, y4, y5, y6, n, rfl, by simpa using hx.1, by simpa using hx.2, by simpa [Value.cells, o0, k0] using g0, by simpa [Value.cells, o1, k1] using g1, by simpa [Value.cells, o2, k2] using g2, by simpa [Value.cells, o3, k3] using g3, by simpa [Value.cells, o4, k4] using g4, by simpa [Value.cells, o5, k5] using g5, by simpa [Value.cells, o6, k6] using g6⟩
end
theorem fldV_get (fs : List Hp.FieldP) : ∀ j, (fldV fs)[j]? = (fs[j / 2]?).map (fun f => if j % 2 = 0 then Value.string ⟨f.name.toArray⟩ else Value.string ⟨f.value.toArray⟩) := by
  induction fs with
  | nil => intro j; simp [fldV]
  | cons a r ih =>
    intro j
    have e : fldV (a :: r) = Value.string ⟨a.name.toArray⟩ :: Value.string ⟨a.value.toArray⟩ :: fldV r := rfl
    rw [e]
    match j with
    | 0 => rfl
    | 1 => rfl
    | j + 2 =>
      rw [List.getElem?_cons_succ, List.getElem?_cons_succ, ih j]
      have h1 : (j + 2) / 2 = j / 2 + 1 := by omega
      have h2 : (j + 2) % 2 = j % 2 := by omega
      rw [h1, h2, List.getElem?_cons_succ]
theorem str_back (s : ByteArray) : (⟨s.data.toList.toArray⟩ : ByteArray) = s := by cases s; simp
theorem flds_bulk {H : Type} (F : Nat → Hp.FieldP) (D0 D1 : Nat → DataW H) : ∀ l : List Nat, (∀ i ∈ l, D0 i = .lit (.string (F i).name) ∧ D1 i = .lit (.string (F i).value)) →
    (Hp.fieldsT (l.map F)).length ≤ 2 * Rows.uptoBulkAll (l.map fun i => .agg [D0 i, D1 i]) := by
  intro l
  induction l with
  | nil => intro _; simp [Hp.fieldsT, Rows.uptoBulkAll]
  | cons a r ih =>
    intro h
    have h1 := ih (fun i hi => h i (List.mem_cons_of_mem _ hi))
    obtain ⟨e0, e1⟩ := h a (List.mem_cons_self ..)
    have e : Hp.fieldsT ((a :: r).map F) = (F a).name ++ [58, 32] ++ (F a).value ++ [13, 10] ++ Hp.fieldsT (r.map F) := by simp [Hp.fieldsT, Hp.fieldT, Hp.crlf]
    rw [e]
    simp only [List.map_cons, Rows.uptoBulkAll, Rows.uptoBulk, e0, e1, List.length_append, List.length_cons, List.length_nil]
    omega
def strOf : Value → List UInt8
  | .string s => s.data.toList
  | _ => []
theorem open_flds {H : Type} {enc : TypeId × Value → H} {W : World} {fuel : Nat} {v : Value} {y : DataW H × List MemPlace} (h : DataW.trod enc Tryz.prog W 0 (fun _ => true) true fuel 22 [v] = some y) :
    ∃ (A : Option Addr) (c : Nat) (fs : List Hp.FieldP), v = .slice A fs.length c ∧ Ro.holds W ⟨A, 2, fs.length, fldV fs, none⟩ ∧ fs.length ≤ Rows.uptoBulk y.1 ∧ (Hp.fieldsT fs).length ≤ 2 * Rows.uptoBulk y.1 := by
  rcases open_slice_pairs Tryz.underlying22 Tryz.underlying37 (by kernel_rfl) rfl rfl (by kernel_rfl) (by kernel_rfl) h with ⟨hc, hx⟩ | ⟨a, len, cap, m, n, V0, V1, D0, D1, P0, P1, hc, _, hl, hm, hmm, hx, hall⟩
  · simp only [List.cons.injEq, and_true] at hc
    exact ⟨none, 0, [], hc, ⟨⟨rfl, nofun⟩, fun hn => absurd hn (by simp)⟩, by simp, by simp [Hp.fieldsT]⟩
  · simp only [List.cons.injEq, and_true] at hc
    simp only [if_true] at hmm
    have hs : ∀ i, i < len → V0 i = .string ⟨(strOf (V0 i)).toArray⟩ ∧ V1 i = .string ⟨(strOf (V1 i)).toArray⟩ ∧ D0 i = .lit (.string (strOf (V0 i))) ∧ D1 i = .lit (.string (strOf (V1 i))) := by
      intro i hi
      obtain ⟨_, _, t0, t1⟩ := hall i (by omega)
      obtain ⟨s0, a0, b0, _⟩ := DataW.trod_string Tryz.underlying9 t0
      obtain ⟨s1, a1, b1, _⟩ := DataW.trod_string Tryz.underlying9 t1
      simp only [List.cons.injEq, and_true] at a0 a1
      simp only [Prod.mk.injEq] at b0 b1
      rw [a0, a1, b0.1, b1.1]
      refine ⟨?_, ?_, rfl, rfl⟩
      · show Value.string s0 = Value.string ⟨s0.data.toList.toArray⟩
        rw [str_back]
      · show Value.string s1 = Value.string ⟨s1.data.toList.toArray⟩
        rw [str_back]
    have hlen : ((List.range len).map fun i => (⟨strOf (V0 i), strOf (V1 i)⟩ : Hp.FieldP)).length = len := by simp
    refine ⟨some a, cap, (List.range len).map fun i => ⟨strOf (V0 i), strOf (V1 i)⟩, by rw [hlen]; exact hc, ?_, ?_, ?_⟩
    · rw [hlen]
      refine ⟨⟨by rw [fldV_len, hlen], nofun⟩, fun hn => ⟨a, rfl, ?_, fun k u hu => ?_⟩⟩
      · have hn' : 0 < len := hn
        exact World.block_lt_of_cell? _ _ (by have := (hall 0 (by omega)).1; simpa [Addr.add] using this)
      · dsimp only at hu
        rw [fldV_get] at hu
        rcases Nat.lt_or_ge (k / 2) len with hk | hk
        · rw [List.getElem?_map, List.getElem?_range hk] at hu
          simp only [Option.map_some, Option.some.injEq] at hu
          obtain ⟨q0, q1, _, _⟩ := hs (k / 2) hk
          obtain ⟨r0, r1, _, _⟩ := hall (k / 2) (by omega)
          by_cases hp : k % 2 = 0
          · rw [if_pos hp] at hu
            have : k = k / 2 * 2 := by omega
            rw [this, r0, q0, ← hu]
          · rw [if_neg hp] at hu
            have : k = k / 2 * 2 + 1 := by omega
            rw [this, r1, q1, ← hu]
        · rw [List.getElem?_eq_none (by rw [hlen]; exact hk)] at hu; cases hu
    · rw [hlen, hx]
      have := bulk_slice ((List.range len).map fun i => (.agg [D0 i, D1 i] : DataW H)) ((List.range (m - len)).map fun j => .agg [D0 (len + j), D1 (len + j)])
      simpa using this
    · have := flds_bulk (fun i => (⟨strOf (V0 i), strOf (V1 i)⟩ : Hp.FieldP)) D0 D1 (List.range len) (fun i hi => ⟨(hs i (List.mem_range.1 hi)).2.2.1, (hs i (List.mem_range.1 hi)).2.2.2⟩)
      rw [hx]
      simp only [Rows.uptoBulk]
      omega
theorem open_head {H : Type} {enc : TypeId × Value → H} {W : World} {r : Reach} {b0 : Nat} {v : Value} {d : DataW H} {p : List MemPlace} (hv : Value.okWide Tryz.prog W r b0 24 v) (ht : DataW.Trod enc Tryz.prog W 0 (fun _ => true) true 24 v d p) :
    ∃ (h : Hp.HeadP) (A : Option Addr) (c : Nat), v = headV h (slF h A c) ∧ (-9223372036854775808 ≤ h.minor ∧ h.minor ≤ 9223372036854775807) ∧ (-9223372036854775808 ≤ h.status ∧ h.status ≤ 9223372036854775807) ∧
      Ro.holds W ⟨A, 2, h.fields.length, fldV h.fields, none⟩ ∧ h.fields.length ≤ Rows.uptoBulk d ∧ h.method.length + h.target.length + h.reason.length + (Hp.fieldsT h.fields).length ≤ 2 * Rows.uptoBulk d := by
  obtain ⟨v0, v1, v2, v3, v4, v5, v6, y0, y1, y2, y3, y4, y5, y6, n, rfl, rfl, rfl, g0, g1, g2, g3, g4, g5, g6⟩ := open_agg7 Tryz.underlying24 (by kernel_rfl) (by kernel_rfl) hv ht
  obtain ⟨b, a0, rfl⟩ := DataW.trod_bool Tryz.underlying4 g0
  obtain ⟨s1, a1, rfl, _⟩ := DataW.trod_string Tryz.underlying9 g1
  obtain ⟨s2, a2, rfl, _⟩ := DataW.trod_string Tryz.underlying9 g2
  obtain ⟨n3, a3, rfl, w3⟩ := DataW.trod_int Tryz.underlying3 g3
  obtain ⟨n4, a4, rfl, w4⟩ := DataW.trod_int Tryz.underlying3 g4
  obtain ⟨s5, a5, rfl, _⟩ := DataW.trod_string Tryz.underlying9 g5
  obtain ⟨A, c, fs, rfl, hro, hb1, hb2⟩ := open_flds g6
  simp only [List.cons.injEq, and_true] at a0 a1 a2 a3 a4 a5
  subst a0 a1 a2 a3 a4 a5
  refine ⟨{ request := b, method := s1.data.toList, target := s2.data.toList, minor := n3, status := n4, reason := s5.data.toList, fields := fs }, A, c, ?_, bounds_i64 w3, bounds_i64 w4, hro, ?_, ?_⟩
  · show Value.agg #[.bool b, .string s1, .string s2, .int .i64 n3, .int .i64 n4, .string s5, .slice A fs.length c] = Value.agg #[.bool b, .string ⟨s1.data.toList.toArray⟩, .string ⟨s2.data.toList.toArray⟩, .int .i64 n3, .int .i64 n4, .string ⟨s5.data.toList.toArray⟩, .slice A fs.length c]
    rw [str_back, str_back, str_back]
  · simp only [Rows.uptoBulk, Rows.uptoBulkAll]; omega
  · simp only [Rows.uptoBulk, Rows.uptoBulkAll]; omega
theorem textI_le (h : Hp.HeadP) (hm : -9223372036854775808 ≤ h.minor ∧ h.minor ≤ 9223372036854775807) (hs : -9223372036854775808 ≤ h.status ∧ h.status ≤ 9223372036854775807) :
    (textI h).length ≤ h.method.length + h.target.length + h.reason.length + (Hp.fieldsT h.fields).length + 100 := by
  have l1 := Lib.itoa_length_le h.minor hm.1 hm.2
  have l2 := Lib.itoa_length_le h.status hs.1 hs.2
  unfold textI lineI verI
  split <;> simp only [List.length_append, List.length_cons, List.length_nil] <;> omega
end Go.Proofs.YtiofekhdicfmoaaGreatDoor
