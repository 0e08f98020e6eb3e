/-
  The arguments of a law, as blocks.
-/
import Derived.Test.YtihfbhoodofhoaaGreatB3
import Derived.WalkKit
import Derived.ProofKit
import Derived.OpenShut
import Derived.Carry
import Derived.SizedLaws
set_option linter.unusedSimpArgs false
set_option linter.unusedVariables false
section
namespace Go.Ev
open Go.ChangeShapes Go.WideShapes Go.ChangeAt Go.RowKit
variable {P : Program}

inductive Kd where
  | int (k : IntKind)
  | bool
  | str

inductive AK where
  | flat (k : Kd)
  | slice (l : List Kd)

def flats : List AK → Option (List Kd)
  | [] => some []
  | .flat k :: r => match flats r with
    | some l => some (k :: l)
    | none => none
  | _ => none

/-- the cells of a type, one by one -/
def fieldsK (P : Program) (r : TypeId → Option (List AK)) : List Field → Nat → Option (List AK)
  | [], _ => some []
  | f :: fs, off => match Nat.beq f.offset off, r f.type with
    | true, some l => match Nat.beq (P.cellsOf f.type) l.length, fieldsK P r fs (off + l.length) with
      | true, some m => some (l ++ m)
      | _, _ => none
    | _, _ => none

def argK (P : Program) : Nat → TypeId → Option (List AK)
  | 0, _ => none
  | n + 1, t => match P.underlying t with
    | some (.int k) => some [.flat (.int k)]
    | some .bool => some [.flat .bool]
    | some .string => some [.flat .str]
    | some (.slice e) => match argK P n e with
      | some l => match flats l, Nat.beq (P.cellsOf e) l.length && Nat.blt 0 l.length with
        | some m, true => some [.slice m]
        | _, _ => none
      | none => none
    | some (.struct fs) => match fieldsK P (argK P n) fs.toList 0 with
      | some l => match Nat.beq (P.cellsOf t) l.length with
        | true => some l
        | false => none
      | none => none
    | _ => none

def kdVal : Kd → Value → Prop
  | .int k, v => ∃ n, v = .int k n ∧ k.min ≤ n ∧ n ≤ k.max
  | .bool, v => ∃ b, v = .bool b
  | .str, v => ∃ s : ByteArray, v = .string s ∧ s.size ≤ maxLen

def cellIs (w : World) : AK → Value → Prop
  | .flat k, v => kdVal k v
  | .slice l, v => v = .slice none 0 0 ∨ ∃ a len cap, v = .slice (some a) len cap ∧ len ≤ cap ∧ cap ≤ maxLen ∧
      ∀ i j k, i < len → l[j]? = some k → ∃ u, w.cell? (a.add (i * l.length + j)) = some u ∧ kdVal k u

theorem flats_get : ∀ (l : List AK) (m : List Kd), flats l = some m → l.length = m.length ∧ ∀ (i : Nat) (k : Kd), m[i]? = some k → l[i]? = some (.flat k)
  | [], m, h => by simp only [flats, Option.some.injEq] at h; subst h; exact ⟨rfl, fun i k h => by simp at h⟩
  | .flat k :: r, m, h => by
    simp only [flats] at h
    split at h
    · rename_i l hl
      simp only [Option.some.injEq] at h; subst h
      obtain ⟨h1, h2⟩ := flats_get r l hl
      refine ⟨by simp [h1], fun i k' hk => ?_⟩
      cases i with
      | zero => simp only [List.getElem?_cons_zero, Option.some.injEq] at hk ⊢; rw [hk]
      | succ i => simp only [List.getElem?_cons_succ] at hk ⊢; exact h2 i k' hk
    · cases h
  | .slice _ :: _, m, h => by simp [flats] at h

section
variable {H : Type} {enc : TypeId × Value → H} {w : World} {base0 : Nat} {spare : Nat → Bool} {held : Bool}

theorem add_add (a : Addr) (i j : Nat) : (a.add i).add j = a.add (i + j) := by
  unfold Addr.add
  by_cases hi : i = 0
  · subst hi; simp
  · by_cases hj : j = 0
    · subst hj; simp [hi]
    · simp [hi, hj]; omega

theorem arg_trod : ∀ (n : Nat) (t : TypeId) (ks : List AK), argK P n t = some ks → ∀ (fuel : Nat) (cs : List Value) (x : DataW H × List MemPlace), DataW.trod enc P w base0 spare held fuel t cs = some x →
    cs.length = ks.length ∧ ∀ (i : Nat) (k : AK), ks[i]? = some k → ∃ v, cs[i]? = some v ∧ cellIs w k v
  | 0, _, _, h, _, _, _, _ => by simp [argK] at h
  | n + 1, t, ks, h, fuel, cs, x, hx => by
    have hone : ∀ (k : AK) (v : Value), cellIs w k v → [v].length = [k].length ∧ ∀ (i : Nat) (k' : AK), [k][i]? = some k' → ∃ u, [v][i]? = some u ∧ cellIs w k' u := by
      intro k v hv
      refine ⟨rfl, fun i k' hk => ?_⟩
      cases i with
      | zero => simp only [List.getElem?_cons_zero, Option.some.injEq] at hk; subst hk; exact ⟨v, rfl, hv⟩
      | succ i => simp at hk
    unfold argK at h
    split at h
    · rename_i k ht
      simp only [Option.some.injEq] at h; subst h
      obtain ⟨m, rfl, _, hw⟩ := DataW.trod_int ht hx
      simp only [Lit.wf, Bool.and_eq_true, decide_eq_true_eq] at hw
      exact hone _ _ ⟨m, rfl, hw⟩
    · rename_i ht
      simp only [Option.some.injEq] at h; subst h
      obtain ⟨b, rfl, _⟩ := DataW.trod_bool ht hx
      exact hone _ _ ⟨b, rfl⟩
    · rename_i ht
      simp only [Option.some.injEq] at h; subst h
      obtain ⟨s, rfl, _, hs⟩ := DataW.trod_string ht hx
      exact hone _ _ ⟨s, rfl, hs⟩
    · rename_i e ht
      split at h
      · rename_i l hl
        split at h
        · rename_i m hm hsz
          simp only [Option.some.injEq] at h; subst h
          simp only [Bool.and_eq_true, Nat.blt_eq] at hsz
          have hsz1 := Nat.eq_of_beq_eq_true hsz.1
          obtain ⟨hfl, hfg⟩ := flats_get l m hm
          rcases DataW.trod_slice ht hx with ⟨rfl, _⟩ | ⟨a, len, cap, elems, rest, n', _, rfl, _, _, h1, h2, h3, h4, _⟩
          · exact hone _ _ (.inl rfl)
          · refine hone _ _ (.inr ⟨a, len, cap, rfl, h1, h2, fun i j k hi hj => ?_⟩)
            have he := h4 i hi
            obtain ⟨y, hy⟩ : ∃ y, elems[i]? = some y := ⟨elems[i]'(by omega), List.getElem?_eq_getElem (by omega)⟩
            rw [hy] at he
            simp only [Option.bind_eq_some_iff] at he
            obtain ⟨cs', hc1, hc2⟩ := he
            obtain ⟨g1, g2⟩ := arg_trod n e l hl n' cs' y hc2
            obtain ⟨u, hu1, hu2⟩ := g2 j (.flat k) (hfg j k hj)
            obtain ⟨_, _, hcell⟩ := World.cells?_some hc1
            have hjl : j < P.cellsOf e := by
              rw [hsz1, hfl]
              exact (List.getElem?_eq_some_iff.1 hj).1
            have := hcell j hjl
            rw [hu1, add_add, hsz1, hfl] at this
            exact ⟨u, this, hu2⟩
        · cases h
      · cases h
    · rename_i fs ht
      split at h
      · rename_i l hl
        split at h
        · rename_i hsz
          simp only [Option.some.injEq] at h; subst h
          have hsz := Nat.eq_of_beq_eq_true hsz
          obtain ⟨xs, n', _, _, hlen, hxl, hf⟩ := DataW.trod_struct ht hx
          refine ⟨hlen.trans hsz, ?_⟩
          have key : ∀ (g : List Field) (off : Nat) (l : List AK), fieldsK P (argK P n) g off = some l →
              (∀ (i : Nat) (f : Field), g[i]? = some f → ∃ y, DataW.trod enc P w base0 spare held n' f.type ((cs.drop f.offset).take (P.cellsOf f.type)) = some y) →
              ∀ (i : Nat) (k : AK), l[i]? = some k → ∃ v, cs[off + i]? = some v ∧ cellIs w k v := by
            intro g
            induction g with
            | nil => intro off l e _ i k hk; simp only [fieldsK, Option.some.injEq] at e; subst e; simp at hk
            | cons f g ih =>
              intro off l e hall i k hk
              simp only [fieldsK] at e
              split at e
              · rename_i l1 ho hl1
                split at e
                · rename_i l2 hs hl2
                  simp only [Option.some.injEq] at e; subst e
                  have ho := Nat.eq_of_beq_eq_true ho
                  have hs := Nat.eq_of_beq_eq_true hs
                  obtain ⟨y, hy⟩ := hall 0 f rfl
                  obtain ⟨a1, a2⟩ := arg_trod n f.type l1 hl1 n' _ y hy
                  by_cases hi : i < l1.length
                  · rw [List.getElem?_append_left hi] at hk
                    obtain ⟨v, hv1, hv2⟩ := a2 i k hk
                    rw [List.getElem?_take_of_lt (by omega), List.getElem?_drop, ho] at hv1
                    exact ⟨v, hv1, hv2⟩
                  · rw [List.getElem?_append_right (by omega)] at hk
                    obtain ⟨v, hv1, hv2⟩ := ih (off + l1.length) l2 hl2 (fun j f' hj => hall (j + 1) f' hj) (i - l1.length) k hk
                    rw [show off + l1.length + (i - l1.length) = off + i by omega] at hv1
                    exact ⟨v, hv1, hv2⟩
                · cases e
              · cases e
          intro i k hk
          have := key fs.toList 0 l hl (fun j f hj => by
            have hj' : fs[j]? = some f := by simpa using hj
            have hjl : j < fs.size := by
              have := (Array.getElem?_eq_some_iff.1 hj').1; exact this
            exact ⟨xs[j]'(by omega), by rw [hf j f hj']; exact List.getElem?_eq_getElem (by omega)⟩) i k hk
          simpa using this
        · cases h
      · cases h
    · cases h
end

/-! ### what is told of the arguments -/
inductive AD where
  | int (k : IntKind) (n : Int)
  | bool (b : Bool)
  | str (s : ByteArray)
  | tab (n : Nat) (cols : List Col)

def colIs (n : Nat) : Kd → Col → Prop
  | .int k, .ints k' g => k = k' ∧ ∀ r, r < n → k.min ≤ g r ∧ g r ≤ k.max
  | .bool, .bools _ => True
  | .str, .strs g => ∀ r, r < n → (g r).size ≤ maxLen
  | _, _ => False

def colsIs (n : Nat) : List Kd → List Col → Prop
  | [], [] => True
  | k :: ks, c :: cs => colIs n k c ∧ colsIs n ks cs
  | _, _ => False

def adIs : AK → AD → Prop
  | .flat (.int k), .int k' n => k = k' ∧ k.min ≤ n ∧ n ≤ k.max
  | .flat .bool, .bool _ => True
  | .flat .str, .str s => s.size ≤ maxLen
  | .slice l, .tab n cols => n ≤ maxLen ∧ colsIs n l cols
  | _, _ => False

def adsIs : List AK → List AD → Prop
  | [], [] => True
  | k :: ks, a :: as => adIs k a ∧ adsIs ks as
  | _, _ => False

def svs : List AD → Nat → List SV
  | [], _ => []
  | .int k n :: r, i => .int false k n :: svs r i
  | .bool b :: r, i => .bool false b :: svs r i
  | .str s :: r, i => .str s :: svs r i
  | .tab n _ :: r, i => .sl i n :: svs r (i + 1)

def heapOf : List AD → Nat → Heap
  | [], _ => []
  | .tab n cols :: r, i => (i, .tab n cols false) :: heapOf r (i + 1)
  | _ :: r, i => heapOf r i

theorem heapOf_ge : ∀ (as : List AD) (i k : Nat) (b : Blk), look (heapOf as i) k = some b → i ≤ k
  | [], _, _, _, h => by cases h
  | .tab n cols :: r, i, k, b, h => by
    simp only [heapOf, look] at h
    split at h
    · rename_i hb; exact Nat.le_of_eq (Nat.eq_of_beq_eq_true hb)
    · exact Nat.le_of_succ_le (heapOf_ge r (i + 1) k b h)
  | .int _ _ :: r, i, k, b, h => heapOf_ge r i k b h
  | .bool _ :: r, i, k, b, h => heapOf_ge r i k b h
  | .str _ :: r, i, k, b, h => heapOf_ge r i k b h

theorem heapOf_rw : ∀ (as : List AD) (i k : Nat) (b : Blk), look (heapOf as i) k = some b → b.rw = false
  | [], _, _, _, h => by cases h
  | .tab n cols :: r, i, k, b, h => by
    simp only [heapOf, look] at h
    split at h
    · simp only [Option.some.injEq] at h; subst h; rfl
    · exact heapOf_rw r (i + 1) k b h
  | .int _ _ :: r, i, k, b, h => heapOf_rw r i k b h
  | .bool _ :: r, i, k, b, h => heapOf_rw r i k b h
  | .str _ :: r, i, k, b, h => heapOf_rw r i k b h

/-- a column out of memory -/
def colFrom (w : World) (a : Addr) (sz j : Nat) : Kd → Col
  | .int k => .ints k fun r => match w.cell? (a.add (r * sz + j)) with
    | some (.int _ n) => n
    | _ => 0
  | .bool => .bools fun r => match w.cell? (a.add (r * sz + j)) with
    | some (.bool b) => b
    | _ => false
  | .str => .strs fun r => match w.cell? (a.add (r * sz + j)) with
    | some (.string s) => s
    | _ => .empty

def colsFrom (w : World) (a : Addr) (sz : Nat) : List Kd → Nat → List Col
  | [], _ => []
  | k :: ks, j => colFrom w a sz j k :: colsFrom w a sz ks (j + 1)

theorem colsFrom_length (w : World) (a : Addr) (sz : Nat) : ∀ (ks : List Kd) (j : Nat), (colsFrom w a sz ks j).length = ks.length
  | [], _ => rfl
  | k :: ks, j => by simp [colsFrom, colsFrom_length w a sz ks (j + 1)]

theorem colsFrom_get (w : World) (a : Addr) (sz : Nat) : ∀ (ks : List Kd) (j i : Nat) (c : Col), (colsFrom w a sz ks j)[i]? = some c → ∃ k, ks[i]? = some k ∧ c = colFrom w a sz (j + i) k
  | [], _, _, _, h => by simp [colsFrom] at h
  | k :: ks, j, i, c, h => by
    cases i with
    | zero => simp only [colsFrom, List.getElem?_cons_zero, Option.some.injEq] at h; subst h; exact ⟨k, rfl, rfl⟩
    | succ i =>
      simp only [colsFrom, List.getElem?_cons_succ] at h
      obtain ⟨k', h1, h2⟩ := colsFrom_get w a sz ks (j + 1) i c h
      exact ⟨k', by simpa using h1, by rw [h2, show j + 1 + i = j + (i + 1) by omega]⟩

theorem colFrom_get {w : World} {a : Addr} {sz j : Nat} {k : Kd} {r : Nat} {u : Value} (h : w.cell? (a.add (r * sz + j)) = some u) (hk : kdVal k u) (σ : Sg) : den σ ((colFrom w a sz j k).get r) = u := by
  cases k with
  | int k => obtain ⟨n, rfl, _⟩ := hk; simp [colFrom, Col.get, den, h]
  | bool => obtain ⟨b, rfl⟩ := hk; simp [colFrom, Col.get, den, h]
  | str => obtain ⟨s, rfl, _⟩ := hk; simp [colFrom, Col.get, den, h]

theorem colIs_from {w : World} {a : Addr} {sz j len : Nat} {k : Kd} (h : ∀ r, r < len → ∃ u, w.cell? (a.add (r * sz + j)) = some u ∧ kdVal k u) : colIs len k (colFrom w a sz j k) := by
  cases k with
  | int k =>
    refine ⟨rfl, fun r hr => ?_⟩
    obtain ⟨u, hu, n, rfl, h1⟩ := h r hr
    simp [hu, h1]
  | bool => trivial
  | str =>
    intro r hr
    obtain ⟨u, hu, s, rfl, h1⟩ := h r hr
    simp [hu, h1]

theorem colsIs_from {w : World} {a : Addr} {sz len : Nat} : ∀ (ks : List Kd) (j : Nat), (∀ r i k, r < len → ks[i]? = some k → ∃ u, w.cell? (a.add (r * sz + (j + i))) = some u ∧ kdVal k u) → colsIs len ks (colsFrom w a sz ks j)
  | [], _, _ => trivial
  | k :: ks, j, h => by
    refine ⟨colIs_from fun r hr => by simpa using h r 0 k hr rfl, colsIs_from ks (j + 1) fun r i k' hr hk => ?_⟩
    have := h r (i + 1) k' hr (by simpa using hk)
    rwa [show j + 1 + i = j + (i + 1) by omega]

theorem build_args (w : World) : ∀ (ks : List AK) (cs : List Value) (i0 : Nat), cs.length = ks.length → (∀ (i : Nat) (k : AK), ks[i]? = some k → ∃ v, cs[i]? = some v ∧ cellIs w k v) →
    (∀ (i : Nat) a l c, cs[i]? = some (.slice (some a) l c) → a.spot = none) →
    ∃ (as : List AD) (ents : Nat → Ent), adsIs ks as ∧ ∀ σ : Sg, (∀ k, i0 ≤ k → σ k = ents k) → denL σ (svs as i0) = cs ∧ ∀ k b, look (heapOf as i0) k = some b → bsat σ w k b
  | [], [], i0, _, _, _ => ⟨[], fun _ => ⟨0, 0, 0, 0, false⟩, trivial, fun σ _ => ⟨rfl, fun k b h => by cases h⟩⟩
  | [], _ :: _, _, hl, _, _ => by simp at hl
  | _ :: _, [], _, hl, _, _ => by simp at hl
  | k :: ks, v :: cs, i0, hl, hc, hsp => by
    have hl' : cs.length = ks.length := by simpa using hl
    have hc' : ∀ (i : Nat) (k : AK), ks[i]? = some k → ∃ v, cs[i]? = some v ∧ cellIs w k v := fun i k' hk => by simpa using hc (i + 1) k' (by simpa using hk)
    have hsp' : ∀ (i : Nat) a l c, cs[i]? = some (.slice (some a) l c) → a.spot = none := fun i a l c h => hsp (i + 1) a l c (by simpa using h)
    obtain ⟨v0, hv0, hcell⟩ := hc 0 k rfl
    simp only [List.getElem?_cons_zero, Option.some.injEq] at hv0; subst hv0
    cases k with
    | flat kd =>
      obtain ⟨as, ents, h1, h2⟩ := build_args w ks cs i0 hl' hc' hsp'
      cases kd with
      | int k =>
        obtain ⟨n, rfl, hn⟩ := hcell
        exact ⟨.int k n :: as, ents, ⟨⟨rfl, hn⟩, h1⟩, fun σ hσ => ⟨by simp only [svs, denL, den, (h2 σ hσ).1], (h2 σ hσ).2⟩⟩
      | bool =>
        obtain ⟨b, rfl⟩ := hcell
        exact ⟨.bool b :: as, ents, ⟨trivial, h1⟩, fun σ hσ => ⟨by simp only [svs, denL, den, (h2 σ hσ).1], (h2 σ hσ).2⟩⟩
      | str =>
        obtain ⟨s, rfl, hs⟩ := hcell
        exact ⟨.str s :: as, ents, ⟨hs, h1⟩, fun σ hσ => ⟨by simp only [svs, denL, den, (h2 σ hσ).1], (h2 σ hσ).2⟩⟩
    | slice l =>
      obtain ⟨as, ents, h1, h2⟩ := build_args w ks cs (i0 + 1) hl' hc' hsp'
      rcases hcell with rfl | ⟨a, len, cap, rfl, hlc, hcm, hcells⟩
      · -- nil
        let cols := colsFrom w ⟨0, 0, Option.none⟩ l.length l 0
        have hcl : cols.length = l.length := colsFrom_length _ _ _ _ _
        refine ⟨.tab 0 cols :: as, fun k => if k = i0 then ⟨0, 0, l.length, 0, true⟩ else ents k, ⟨⟨Nat.zero_le _, colsIs_from l 0 fun r i k hr => by omega⟩, h1⟩, fun σ hσ => ?_⟩
        have he : σ i0 = ⟨0, 0, l.length, 0, true⟩ := by rw [hσ i0 (Nat.le_refl _)]; simp
        obtain ⟨g1, g2⟩ := h2 σ fun k hk => by rw [hσ k (by omega)]; simp only; rw [if_neg (by omega)]
        refine ⟨by simp only [svs, denL, den, g1, he, if_true], fun k b hk => ?_⟩
        simp only [heapOf, look] at hk
        split at hk
        · rename_i hb
          have := Nat.eq_of_beq_eq_true hb
          subst this
          simp only [Option.some.injEq] at hk; subst hk
          simp only [bsat, he]
          exact ⟨hcl.symm, Nat.le_refl _, fun _ => trivial, fun r c col hr => (by omega), fun h => (by cases h)⟩
        · exact g2 k b hk
      · have hspot := hsp 0 a len cap rfl
        obtain ⟨ab, ao, asp⟩ := a
        simp only at hspot
        subst hspot
        let cols := colsFrom w ⟨ab, ao, Option.none⟩ l.length l 0
        have hcl : cols.length = l.length := colsFrom_length _ _ _ _ _
        refine ⟨.tab len cols :: as, fun k => if k = i0 then ⟨ab, ao, l.length, cap, false⟩ else ents k, ⟨⟨Nat.le_trans hlc hcm, colsIs_from l 0 fun r i k hr hk => by rw [Nat.zero_add]; exact hcells r i k hr hk⟩, h1⟩, fun σ hσ => ?_⟩
        have he : σ i0 = ⟨ab, ao, l.length, cap, false⟩ := by rw [hσ i0 (Nat.le_refl _)]; simp
        obtain ⟨g1, g2⟩ := h2 σ fun k hk => by rw [hσ k (by omega)]; simp only; rw [if_neg (by omega)]
        refine ⟨by simp only [svs, denL, den, g1, he, Bool.false_eq_true, if_false], fun k b hk => ?_⟩
        simp only [heapOf, look] at hk
        split at hk
        · rename_i hb
          have := Nat.eq_of_beq_eq_true hb
          subst this
          simp only [Option.some.injEq] at hk; subst hk
          simp only [bsat, he]
          refine ⟨hcl.symm, hlc, fun h => (by cases h), fun r c col hr hcol => ?_, fun h => (by cases h)⟩
          obtain ⟨kd, hkd, hce⟩ := colsFrom_get _ _ _ _ _ _ _ hcol
          rw [Nat.zero_add] at hce
          obtain ⟨u, hu, hku⟩ := hcells r c kd hr hkd
          have hu' : w.cell? ⟨ab, ao + (r * l.length + c), Option.none⟩ = some u := by rw [addr_add] at hu; exact hu
          rw [hu', hce, colFrom_get hu hku σ]
        · exact g2 k b hk

/-- an address of an argument has no spot -/
theorem cell_spot {w : World} {r : Reach} {b : Nat} {u : TypeId} {a : Addr} {l c : Nat} (h : Cell.okWide P w r b u (.slice (some a) l c)) : a.spot = none := by
  unfold Cell.okWide at h
  split at h <;> try (rename_i he; cases he; done)
  all_goals first
    | (rename_i h1 h2; cases h2; done)
    | skip
  unfold Cell.ok at h
  split at h <;> first
    | exact h.elim
    | (rename_i he; cases he; done)
    | skip
  all_goals first
    | (rename_i h1 h2; cases h2; done)
    | skip
  all_goals first
    | exact h.2.2.2.1
    | (simp_all; done)
    | (rename_i h1 h2; simp only [Value.slice.injEq, Option.some.injEq] at h2; obtain ⟨rfl, rfl, rfl⟩ := h2; exact h.2.2.2.1)

theorem val_spot {w : World} {r : Reach} {b : Nat} {t : TypeId} {v : Value} (h : Value.okWide P w r b t v) : ∀ (i : Nat) a l c, v.cells.toList[i]? = some (.slice (some a) l c) → a.spot = none := by
  intro i a l c hi
  unfold Value.okWide at h
  have hrow : ∀ cs, Row.okWide P w r b t cs → v = .agg cs → a.spot = none := by
    intro cs hr hv
    obtain ⟨ts, _, _, hall⟩ := hr
    subst hv
    obtain ⟨u, _, hu⟩ := hall i _ (by simpa [Value.cells] using hi)
    exact cell_spot hu
  split at h
  · obtain ⟨cs, rfl, _, hr⟩ := h; exact hrow cs hr rfl
  · obtain ⟨cs, rfl, _, hr⟩ := h; exact hrow cs hr rfl
  · cases v with
    | agg cs => 
      exfalso
      unfold Cell.okWide at h
      split at h <;> first | (rename_i h1 h2; cases h2; done) | skip
      unfold Cell.ok at h
      split at h <;> first | exact h.elim | (rename_i h1 h2; cases h2; done)
    | slice o l' c' =>
      cases i with
      | zero =>
        simp only [Value.cells, List.getElem?_cons_zero, Option.some.injEq] at hi
        rw [hi] at h
        exact cell_spot h
      | succ i => simp [Value.cells] at hi
    | _ =>
      cases i with
      | zero => simp [Value.cells] at hi
      | succ i => simp [Value.cells] at hi

end Go.Ev
end

section
namespace Go.Ev
open Go.ChangeShapes Go.WideShapes Go.ChangeAt Go.RowKit
variable {P : Program}

theorem adsIs_length : ∀ (ks : List AK) (as : List AD), adsIs ks as → as.length = ks.length
  | [], [], _ => rfl
  | k :: ks, a :: as, h => by simp only [adsIs] at h; simp [adsIs_length ks as h.2]
  | [], _ :: _, h => h.elim
  | _ :: _, [], h => h.elim

theorem adsIs_cons {k : AK} {ks : List AK} {as : List AD} (h : adsIs (k :: ks) as) : ∃ a r, as = a :: r ∧ adIs k a ∧ adsIs ks r := by
  cases as with
  | nil => exact h.elim
  | cons a r => exact ⟨a, r, rfl, h.1, h.2⟩
theorem adsIs_nil {as : List AD} (h : adsIs [] as) : as = [] := by
  cases as with
  | nil => rfl
  | cons a r => exact h.elim
theorem adIs_slice {l : List Kd} {a : AD} (h : adIs (.slice l) a) : ∃ n cols, a = .tab n cols ∧ n ≤ maxLen ∧ colsIs n l cols := by
  cases a with
  | tab n cols => exact ⟨n, cols, rfl, h⟩
  | _ => exact h.elim
theorem adIs_int {k : IntKind} {a : AD} (h : adIs (.flat (.int k)) a) : ∃ n, a = .int k n ∧ k.min ≤ n ∧ n ≤ k.max := by
  cases a with
  | int k' n => obtain ⟨rfl, h⟩ := h; exact ⟨n, rfl, h⟩
  | _ => exact h.elim
theorem adIs_bool {a : AD} (h : adIs (.flat .bool) a) : ∃ b, a = .bool b := by
  cases a with
  | bool b => exact ⟨b, rfl⟩
  | _ => exact h.elim
theorem adIs_str {a : AD} (h : adIs (.flat .str) a) : ∃ s, a = .str s ∧ s.size ≤ maxLen := by
  cases a with
  | str s => exact ⟨s, rfl, h⟩
  | _ => exact h.elim
theorem colsIs_nil {n : Nat} {cols : List Col} (h : colsIs n [] cols) : cols = [] := by
  cases cols with
  | nil => rfl
  | cons _ _ => exact h.elim
theorem colsIs_int {n : Nat} {k : IntKind} {ks : List Kd} {cols : List Col} (h : colsIs n (.int k :: ks) cols) : ∃ g r, cols = .ints k g :: r ∧ (∀ i, i < n → k.min ≤ g i ∧ g i ≤ k.max) ∧ colsIs n ks r := by
  cases cols with
  | nil => exact h.elim
  | cons c r =>
    obtain ⟨h1, h2⟩ := h
    cases c with
    | ints k' g => obtain ⟨rfl, h1⟩ := h1; exact ⟨g, r, rfl, h1, h2⟩
    | _ => exact h1.elim
theorem colsIs_bool {n : Nat} {ks : List Kd} {cols : List Col} (h : colsIs n (.bool :: ks) cols) : ∃ g r, cols = .bools g :: r ∧ colsIs n ks r := by
  cases cols with
  | nil => exact h.elim
  | cons c r =>
    obtain ⟨h1, h2⟩ := h
    cases c with
    | bools g => exact ⟨g, r, rfl, h2⟩
    | _ => exact h1.elim
theorem colsIs_str {n : Nat} {ks : List Kd} {cols : List Col} (h : colsIs n (.str :: ks) cols) : ∃ g r, cols = .strs g :: r ∧ (∀ i, i < n → (g i).size ≤ maxLen) ∧ colsIs n ks r := by
  cases cols with
  | nil => exact h.elim
  | cons c r =>
    obtain ⟨h1, h2⟩ := h
    cases c with
    | strs g => exact ⟨g, r, rfl, h1, h2⟩
    | _ => exact h1.elim

def isStructT (P : Program) (t : TypeId) : Bool := match P.underlying t with
  | some (.struct _) => true
  | _ => false

theorem law_runs {E : Env} (hE : CallsOk E P) (hm : P.follows .mixedOrders = true) {f : FuncId} {fn : Func} {c : Code} (hf : P.funcs[f]? = some fn) (hb : fn.body = some c) (hL : LoopsOk E P fn c 0)
    {t : TypeId} {n : Nat} {ks : List AK} (hst : isStructT P t = true) (hk : argK P n t = some ks) (hsmall : ks.length ≤ base)
    (hgo : ∀ as, adsIs ks as → ∃ l, (evalF E P f [.agg (svs as 0)] (heapOf as 0) base).bare = .ret (.bool l true) [])
    {H : Type} {enc : TypeId × Value → H} {W : World} {b0 b1 : Nat} {v : Value} {d : DataW H} {ps : List MemPlace} {sp : Nat → Bool} {held : Bool} {r : Reach}
    (hval : Value.okWide P W r b1 t v) (htrod : DataW.Trod enc P W b0 sp held t v d ps) :
    Calls P f #[v] W fun e W' => e = .returned (.bool true) ∧ Below W.heap.size W W' := by
  obtain ⟨fs, ht⟩ : ∃ fs, P.underlying t = some (.struct fs) := by
    unfold isStructT at hst
    split at hst
    · rename_i fs ht; exact ⟨fs, ht⟩
    · cases hst
  obtain ⟨cs, rfl⟩ : ∃ cs, v = .agg cs := by
    unfold Value.okWide at hval
    rw [ht] at hval
    obtain ⟨cs, h, _⟩ := hval
    exact ⟨cs, h⟩
  obtain ⟨fuel, htrod⟩ := htrod
  have hcs : (Value.agg cs).cells.toList = cs.toList := rfl
  rw [hcs] at htrod
  obtain ⟨h1, h2⟩ := arg_trod n t ks hk fuel cs.toList _ htrod
  obtain ⟨as, ents, h3, h4⟩ := build_args W ks cs.toList 0 h1 h2 (val_spot hval)
  obtain ⟨h5, h6⟩ := h4 ents fun _ _ => rfl
  have hs : HSat ents (heapOf as 0) W := ⟨h6, fun k b k' b' hk ho => by
    have := heapOf_rw as 0 k b hk
    exact (Blk.ow_false this ho).elim⟩
  obtain ⟨l, hl⟩ := hgo as h3
  rw [bare_leaf] at hl
  generalize hlf : (evalF E P f [.agg (svs as 0)] (heapOf as 0) base).leaf = lf at hl
  cases lf with
  | ret v' H' =>
    simp only [Lf.bare, Lf.ret.injEq, and_true] at hl
    subst hl
    have hnames : ∀ (as : List AD) (i : Nat), SV.alL (lt (i + as.length)) (svs as i) = true ∧ Ev.hal (lt (i + as.length)) (heapOf as i) = true := by
      intro as
      induction as with
      | nil => intro i; exact ⟨rfl, rfl⟩
      | cons a as ih =>
        intro i
        have e : i + (a :: as).length = (i + 1) + as.length := by simp; omega
        cases a with
        | int k n =>
          obtain ⟨g1, g2⟩ := ih i
          exact ⟨by simp only [svs, SV.alL, SV.al, Bool.true_and]; exact SV.alL_mono (lt_mono (by simp)) _ g1, hal_mono (lt_mono (by simp)) _ g2⟩
        | bool b =>
          obtain ⟨g1, g2⟩ := ih i
          exact ⟨by simp only [svs, SV.alL, SV.al, Bool.true_and]; exact SV.alL_mono (lt_mono (by simp)) _ g1, hal_mono (lt_mono (by simp)) _ g2⟩
        | str s =>
          obtain ⟨g1, g2⟩ := ih i
          exact ⟨by simp only [svs, SV.alL, SV.al, Bool.true_and]; exact SV.alL_mono (lt_mono (by simp)) _ g1, hal_mono (lt_mono (by simp)) _ g2⟩
        | tab n cols =>
          obtain ⟨g1, g2⟩ := ih (i + 1)
          rw [e]
          have hi : lt (i + 1 + as.length) i = true := by simp only [lt, Nat.blt_eq]; omega
          exact ⟨by simp only [svs, SV.alL, SV.al, hi, g1, Bool.and_self], by simp only [heapOf, Ev.hal, hi, Blk.al, g2, Bool.and_self]⟩
    obtain ⟨g1, g2⟩ := hnames as 0
    have hle : 0 + as.length ≤ base := by rw [adsIs_length ks as h3]; omega
    have hargs : (denL ents [SV.agg (svs as 0)]).toArray = #[Value.agg cs] := by
      simp only [denL, den, h5]
    have := evalF_calls hE hm hf hb hL hs (hal_mono (lt_mono hle) _ g2) (by simp only [SV.alL, SV.al, Bool.and_true]; exact SV.alL_mono (lt_mono hle) _ g1) (Nat.le_refl _) hlf (R := fun e W' => e = .returned (.bool true) ∧ Below W.heap.size W W') fun σ' w' _ hwd => by
      refine ⟨by simp only [den], hwd.os, hwd.tape, hwd.output, hwd.size, fun j hj => hwd.old j hj ?_⟩
      rintro ⟨k, b, hk, ho, _⟩
      exact Blk.ow_false (heapOf_rw as 0 k b hk) ho
    rwa [hargs] at this
  | norm _ => simp [Lf.bare] at hl
  | exit _ _ => simp [Lf.bare] at hl
  | bad => simp [Lf.bare] at hl

theorem below_kept {W W' : World} (h : Below W.heap.size W W') (may : MemPlace → Prop) : W.keptBut W' may := by
  refine ⟨h.os, h.output, fun i hi => ?_⟩
  rw [h.block i hi]
  cases hh : W.heap[i]? with
  | none => rfl
  | some o => cases o <;> first | exact ⟨rfl, rfl, rfl, fun _ _ => rfl⟩ | exact .inr ⟨rfl, rfl⟩ | rfl

/-- the row's post, where of what was there nothing has turned -/
theorem law_post {H : Type} {enc : TypeId × Value → H} {fn : Func} {s : ChangeSpec} {apart fresh handsOn again : Bool} {W W' : World} {args : Array Value} {ds gs : List (DataW H)} {before : List MemPlace} {t rb : TypeId}
    (hp : fn.params = #[t]) (hr : fn.resultTypes = #[rb]) (hrb : P.underlying rb = some .bool) (hv : s.vars = [])
    (hs : ∀ d : DataW H, s.fn H [d] = { results := [.lit (.bool true)], args := [d] })
    (hl : laidOutB P = true) (hrec : P.readableRec t = true) (hrow : t < P.types.size)
    (hW : DataW.Whole enc P fn.params.toList s.vars apart W args.toList ds gs before) (hb : Below W.heap.size W W') :
    s.post enc P fn apart fresh handsOn again W args (.bool true) W' := by
  have hWlt := hW.lt
  obtain ⟨p, q, hA, hV, rfl, hfz, hnd⟩ := id hW
  have hA : DataW.TrodAll enc P W 0 (fun _ => true) true fn.params.toList args.toList ds p := hA
  rw [hp] at hA
  obtain ⟨v, d, hargs, rfl, htrod⟩ := trodAll_one hA
  rw [hv] at hV
  obtain ⟨rfl, rfl⟩ := trodVars_none hV
  have hlt : ∀ x ∈ p, x.block < W.heap.size := fun x hx => by simpa using hWlt x (by simpa using hx)
  have hsame : ∀ (sp : Nat → Bool), (∀ x ∈ p, sp x.block = true) → DataW.Trod enc P W' 0 sp true t v d p := fun sp hsp =>
    WideElems.Trod_stays hl hrec hrow htrod (fun x hx => hb.same (hlt x hx)) hsp
  have hres : ∀ (b : Nat) (sp : Nat → Bool) (hd : Bool), DataW.TrodAll enc P W' b sp hd fn.resultTypes.toList ((Value.bool true).resultList fn.resultTypes.size) [.lit (.bool true)] [] := by
    intro b sp hd
    rw [hr]
    exact trodAll_mk1 (shut_bool hrb _)
  have hfn := hs d
  refine ⟨[d], [], p ++ [], [], p, [], hW, ?_, ?_, ?_, below_kept hb _, fun _ => ⟨?_, ?_⟩⟩
  · simp only [List.append_nil, hfn]; exact hres _ _ _
  · simp only [List.append_nil, hfn]
    rw [hp, hargs]
    exact trodAll_mk1 (hsame _ fun x hx => by simpa using hlt x hx)
  · simp only [List.append_nil, hfn, hv]; rfl
  · intro j t' r hj hv'
    rw [hr] at hj hv'
    match j, hj, hv' with
    | 0, hj, hv' =>
      simp [Value.resultList] at hj hv'
      subst hj; subst hv'
      exact okWide_bool_mk hrb _
    | j + 1, hj, _ => simp at hj
  · refine ⟨[.lit (.bool true), d], [], p, ⟨p, [], ?_, ?_, by simp, ?_, fun ha => by simpa using hnd ha⟩, fun x hx _ => by simpa using hx⟩
    · have h1 := trodAll_append (trodAll_mk1 (hsame (fun _ => true) fun _ _ => rfl)) (hres 0 (fun _ => true) true)
      rw [hp, hargs]
      simpa using h1
    · rw [hv]; rfl
    · intro b off hx
      have := hfz b off (by simpa using hx)
      have hbl := hlt _ hx
      simp only [World.frozen?] at this ⊢
      rw [hb.block b hbl]
      exact this

end Go.Ev
end

section
namespace Go.Ev
open Go.ChangeShapes Go.WideShapes Go.ChangeAt Go.RowKit
variable {P : Program}

def smallV (v : Value) : Prop := ∀ o len cap, v = .slice o len cap → len ≤ reachBytes

/-- the elements of slices take room -/
def roomK (P : Program) : Nat → TypeId → Bool
  | 0, _ => false
  | n + 1, t => match P.underlying t with
    | some (.slice e) => Nat.blt 0 (P.bytesOf e)
    | some (.struct fs) => fs.toList.all fun f => roomK P n f.type
    | _ => true

section
variable {H : Type} {enc : TypeId × Value → H} {w : World} {base0 : Nat} {spare : Nat → Bool} {held : Bool}

theorem weightsEach_all : ∀ {ts : List TypeId} {ds : List (DataW H)}, (DataW.weightsEach P ts ds).all (· ≤ reachBytes) = true → ∀ (j : Nat) t d, ts[j]? = some t → ds[j]? = some d → (d.weights P t).all (· ≤ reachBytes) = true := by
  intro ts ds h j t d ht hd
  rw [List.all_eq_true] at h ⊢
  exact fun n hn => h n (DataW.weights_mem_each ht hd n hn)

theorem arg_small : ∀ (n : Nat) (t : TypeId) (ks : List AK), argK P n t = some ks → roomK P n t = true → ∀ (fuel : Nat) (cs : List Value) (x : DataW H × List MemPlace), DataW.trod enc P w base0 spare held fuel t cs = some x →
    (x.1.weights P t).all (· ≤ reachBytes) = true → ∀ (i : Nat) v, cs[i]? = some v → smallV v
  | 0, _, _, h, _, _, _, _, _, _ => by simp [argK] at h
  | n + 1, t, ks, h, hroom, fuel, cs, x, hx, hw => by
    have hone : ∀ (u : Value), smallV u → ∀ (i : Nat) v, [u][i]? = some v → smallV v := by
      intro u hu i v hi
      cases i with
      | zero => simp only [List.getElem?_cons_zero, Option.some.injEq] at hi; subst hi; exact hu
      | succ i => simp at hi
    unfold argK at h
    split at h
    · rename_i k ht
      obtain ⟨m, rfl, _, _⟩ := DataW.trod_int ht hx
      exact hone _ fun o len cap e => by cases e
    · rename_i ht
      obtain ⟨b, rfl, _⟩ := DataW.trod_bool ht hx
      exact hone _ fun o len cap e => by cases e
    · rename_i ht
      obtain ⟨s, rfl, _, _⟩ := DataW.trod_string ht hx
      exact hone _ fun o len cap e => by cases e
    · rename_i e ht
      unfold roomK at hroom
      rw [ht] at hroom
      simp only [Nat.blt_eq] at hroom
      rcases DataW.trod_slice ht hx with ⟨rfl, _⟩ | ⟨a, len, cap, elems, rest, n', _, rfl, rfl, _, h1, h2, h3, _, _⟩
      · exact hone _ fun o len cap e => by cases e; exact Nat.zero_le _
      · refine hone _ fun o len' cap' e' => ?_
        cases e'
        simp only [DataW.weights, ht, List.all_cons, Bool.and_eq_true, decide_eq_true_eq, List.length_map] at hw
        have h5 := hw.1
        have : len * 1 ≤ (elems.length + rest.length) * P.bytesOf e := Nat.mul_le_mul (by omega) hroom
        omega
    · rename_i fs ht
      split at h
      · rename_i l hl
        split at h
        · rename_i hsz
          simp only [Option.some.injEq] at h; subst h
          have hsz := Nat.eq_of_beq_eq_true hsz
          unfold roomK at hroom
          rw [ht] at hroom
          obtain ⟨xs, n', _, rfl, hlen, hxl, hf⟩ := DataW.trod_struct ht hx
          simp only [DataW.weights, ht] at hw
          have hall := weightsEach_all hw
          have key : ∀ (g : List Field) (off : Nat) (l : List AK), fieldsK P (argK P n) g off = some l → (∀ f ∈ g, roomK P n f.type = true) →
              (∀ (i : Nat) (f : Field), g[i]? = some f → ∃ y, DataW.trod enc P w base0 spare held n' f.type ((cs.drop f.offset).take (P.cellsOf f.type)) = some y ∧ (y.1.weights P f.type).all (· ≤ reachBytes) = true) →
              ∀ (i : Nat) v, i < l.length → cs[off + i]? = some v → smallV v := by
            intro g
            induction g with
            | nil => intro off l e _ _ i v hi; simp only [fieldsK, Option.some.injEq] at e; subst e; simp at hi
            | cons f g ih =>
              intro off l e hr hall i v hi hv
              simp only [fieldsK] at e
              split at e
              · rename_i l1 ho hl1
                split at e
                · rename_i l2 hs hl2
                  simp only [Option.some.injEq] at e; subst e
                  have ho := Nat.eq_of_beq_eq_true ho
                  have hs := Nat.eq_of_beq_eq_true hs
                  obtain ⟨y, hy, hyw⟩ := hall 0 f rfl
                  have a3 := arg_small n f.type l1 hl1 (hr f (List.mem_cons_self ..)) n' _ y hy hyw
                  by_cases hi1 : i < l1.length
                  · refine a3 i v ?_
                    rw [List.getElem?_take_of_lt (by omega), List.getElem?_drop, ho]
                    exact hv
                  · rw [List.length_append] at hi
                    refine ih (off + l1.length) l2 hl2 (fun f' hf' => hr f' (List.mem_cons_of_mem _ hf')) (fun j f' hj => hall (j + 1) f' hj) (i - l1.length) v (by omega) ?_
                    rw [show off + l1.length + (i - l1.length) = off + i by omega]
                    exact hv
                · cases e
              · cases e
          intro i v hv
          have hil : i < l.length := by
            have := (List.getElem?_eq_some_iff.1 hv).1
            omega
          refine key fs.toList 0 l hl (fun f hf' => List.all_eq_true.1 hroom f hf') (fun j f hj => ?_) i v hil (by simpa using hv)
          have hj' : fs[j]? = some f := by simpa using hj
          have hjl : j < fs.size := (Array.getElem?_eq_some_iff.1 hj').1
          refine ⟨xs[j]'(by omega), by rw [hf j f hj']; exact List.getElem?_eq_getElem (by omega), ?_⟩
          refine hall j f.type _ (by simp [hj']) ?_
          simp [List.getElem?_eq_getElem (show j < xs.length by omega)]
        · cases h
      · cases h
    · cases h
end

/-- no table is longer than memory may be -/
def adsSmall : List AD → Prop
  | [] => True
  | .tab n _ :: r => n ≤ reachBytes ∧ adsSmall r
  | _ :: r => adsSmall r

theorem adsSmall_of {σ : Sg} : ∀ (as : List AD) (i : Nat) (cs : List Value), denL σ (svs as i) = cs → (∀ (j : Nat) v, cs[j]? = some v → smallV v) → adsSmall as
  | [], _, _, _, _ => trivial
  | a :: r, i, cs, h, hs => by
    cases cs with
    | nil => cases a <;> simp [svs, denL] at h
    | cons c cs =>
      have hr : ∀ (j : Nat) v, cs[j]? = some v → smallV v := fun j v hj => hs (j + 1) v (by simpa using hj)
      cases a with
      | tab n cols =>
        simp only [svs, denL, List.cons.injEq] at h
        obtain ⟨h1, h2⟩ := h
        have := hs 0 c rfl
        simp only [den] at h1
        exact ⟨this _ _ _ h1.symm, adsSmall_of r (i + 1) cs h2 hr⟩
      | int _ _ => simp only [svs, denL, List.cons.injEq] at h; exact adsSmall_of r i cs h.2 hr
      | bool _ => simp only [svs, denL, List.cons.injEq] at h; exact adsSmall_of r i cs h.2 hr
      | str _ => simp only [svs, denL, List.cons.injEq] at h; exact adsSmall_of r i cs h.2 hr

theorem law_runsZ {E : Env} (hE : CallsOk E P) (hm : P.follows .mixedOrders = true) {f : FuncId} {fn : Func} {c : Code} (hf : P.funcs[f]? = some fn) (hb : fn.body = some c) (hL : LoopsOk E P fn c 0)
    {t : TypeId} {n : Nat} {ks : List AK} (hst : isStructT P t = true) (hk : argK P n t = some ks) (hroom : roomK P n t = true) (hsmall : ks.length ≤ base)
    (hgo : ∀ as, adsIs ks as → adsSmall as → ∃ l, (evalF E P f [.agg (svs as 0)] (heapOf as 0) base).bare = .ret (.bool l true) [])
    {H : Type} {enc : TypeId × Value → H} {W : World} {b0 b1 : Nat} {v : Value} {d : DataW H} {ps : List MemPlace} {sp : Nat → Bool} {held : Bool} {r : Reach}
    (hval : Value.okWide P W r b1 t v) (htrod : DataW.Trod enc P W b0 sp held t v d ps) (hw : (d.weights P t).all (· ≤ reachBytes) = true) :
    Calls P f #[v] W fun e W' => e = .returned (.bool true) ∧ Below W.heap.size W W' := by
  obtain ⟨fs, ht⟩ : ∃ fs, P.underlying t = some (.struct fs) := by
    unfold isStructT at hst
    split at hst
    · rename_i fs ht; exact ⟨fs, ht⟩
    · cases hst
  obtain ⟨cs, rfl⟩ : ∃ cs, v = .agg cs := by
    unfold Value.okWide at hval
    rw [ht] at hval
    obtain ⟨cs, h, _⟩ := hval
    exact ⟨cs, h⟩
  obtain ⟨fuel, htrod⟩ := htrod
  have hcs : (Value.agg cs).cells.toList = cs.toList := rfl
  rw [hcs] at htrod
  obtain ⟨h1, h2⟩ := arg_trod n t ks hk fuel cs.toList _ htrod
  have hsm := arg_small n t ks hk hroom fuel cs.toList _ htrod hw
  obtain ⟨as, ents, h3, h4⟩ := build_args W ks cs.toList 0 h1 h2 (val_spot hval)
  obtain ⟨h5, h6⟩ := h4 ents fun _ _ => rfl
  have hs : HSat ents (heapOf as 0) W := ⟨h6, fun k b k' b' hk ho => by
    have := heapOf_rw as 0 k b hk
    exact (Blk.ow_false this ho).elim⟩
  obtain ⟨l, hl⟩ := hgo as h3 (adsSmall_of as 0 cs.toList h5 hsm)
  rw [bare_leaf] at hl
  generalize hlf : (evalF E P f [.agg (svs as 0)] (heapOf as 0) base).leaf = lf at hl
  cases lf with
  | ret v' H' =>
    simp only [Lf.bare, Lf.ret.injEq, and_true] at hl
    subst hl
    have hnames : ∀ (as : List AD) (i : Nat), SV.alL (lt (i + as.length)) (svs as i) = true ∧ Ev.hal (lt (i + as.length)) (heapOf as i) = true := by
      intro as
      induction as with
      | nil => intro i; exact ⟨rfl, rfl⟩
      | cons a as ih =>
        intro i
        have e : i + (a :: as).length = (i + 1) + as.length := by simp; omega
        cases a with
        | int k n =>
          obtain ⟨g1, g2⟩ := ih i
          exact ⟨by simp only [svs, SV.alL, SV.al, Bool.true_and]; exact SV.alL_mono (lt_mono (by simp)) _ g1, hal_mono (lt_mono (by simp)) _ g2⟩
        | bool b =>
          obtain ⟨g1, g2⟩ := ih i
          exact ⟨by simp only [svs, SV.alL, SV.al, Bool.true_and]; exact SV.alL_mono (lt_mono (by simp)) _ g1, hal_mono (lt_mono (by simp)) _ g2⟩
        | str s =>
          obtain ⟨g1, g2⟩ := ih i
          exact ⟨by simp only [svs, SV.alL, SV.al, Bool.true_and]; exact SV.alL_mono (lt_mono (by simp)) _ g1, hal_mono (lt_mono (by simp)) _ g2⟩
        | tab n cols =>
          obtain ⟨g1, g2⟩ := ih (i + 1)
          rw [e]
          have hi : lt (i + 1 + as.length) i = true := by simp only [lt, Nat.blt_eq]; omega
          exact ⟨by simp only [svs, SV.alL, SV.al, hi, g1, Bool.and_self], by simp only [heapOf, Ev.hal, hi, Blk.al, g2, Bool.and_self]⟩
    obtain ⟨g1, g2⟩ := hnames as 0
    have hle : 0 + as.length ≤ base := by rw [adsIs_length ks as h3]; omega
    have hargs : (denL ents [SV.agg (svs as 0)]).toArray = #[Value.agg cs] := by
      simp only [denL, den, h5]
    have := evalF_calls hE hm hf hb hL hs (hal_mono (lt_mono hle) _ g2) (by simp only [SV.alL, SV.al, Bool.and_true]; exact SV.alL_mono (lt_mono hle) _ g1) (Nat.le_refl _) hlf (R := fun e W' => e = .returned (.bool true) ∧ Below W.heap.size W W') fun σ' w' _ hwd => by
      refine ⟨by simp only [den], hwd.os, hwd.tape, hwd.output, hwd.size, fun j hj => hwd.old j hj ?_⟩
      rintro ⟨k, b, hk, ho, _⟩
      exact Blk.ow_false (heapOf_rw as 0 k b hk) ho
    rwa [hargs] at this
  | norm _ => simp [Lf.bare] at hl
  | exit _ _ => simp [Lf.bare] at hl
  | bad => simp [Lf.bare] at hl

end Go.Ev
end

section
namespace Go.Ev
open Go.ChangeShapes Go.WideShapes Go.ChangeAt Go.RowKit
variable {P : Program}

/-- strings that are small -/
def smallS (v : Value) : Prop := ∀ s : ByteArray, v = .string s → s.size ≤ reachBytes
def smallC (w : World) : AK → Value → Prop
  | .flat _, v => smallS v
  | .slice l, v => ∀ a len cap, v = .slice (some a) len cap → ∀ i j k, i < len → l[j]? = some k → ∀ u, w.cell? (a.add (i * l.length + j)) = some u → smallS u

section
variable {H : Type} {enc : TypeId × Value → H} {w : World} {base0 : Nat} {spare : Nat → Bool} {held : Bool}

theorem weightsAll_mem {e : TypeId} : ∀ {ds : List (DataW H)} {d : DataW H} {n : Nat}, d ∈ ds → n ∈ d.weights P e → n ∈ DataW.weightsAll P e ds
  | [], _, _, h, _ => by cases h
  | d0 :: ds, d, n, h, hn => by
    simp only [DataW.weightsAll, List.mem_append]
    rcases List.mem_cons.1 h with rfl | h
    · exact .inl hn
    · exact .inr (weightsAll_mem h hn)

theorem arg_strs : ∀ (n : Nat) (t : TypeId) (ks : List AK), argK P n t = some ks → ∀ (fuel : Nat) (cs : List Value) (x : DataW H × List MemPlace), DataW.trod enc P w base0 spare held fuel t cs = some x →
    (x.1.weights P t).all (· ≤ reachBytes) = true → ∀ (i : Nat) (k : AK) v, ks[i]? = some k → cs[i]? = some v → smallC w k v
  | 0, _, _, h, _, _, _, _, _ => by simp [argK] at h
  | n + 1, t, ks, h, fuel, cs, x, hx, hw => by
    have hone : ∀ (k : AK) (v : Value), smallC w k v → ∀ (i : Nat) (k' : AK) u, [k][i]? = some k' → [v][i]? = some u → smallC w k' u := by
      intro k v hv i k' u hk hu
      cases i with
      | zero => simp only [List.getElem?_cons_zero, Option.some.injEq] at hk hu; subst hk; subst hu; exact hv
      | succ i => simp at hk
    unfold argK at h
    split at h
    · rename_i k ht
      simp only [Option.some.injEq] at h; subst h
      obtain ⟨m, rfl, _, _⟩ := DataW.trod_int ht hx
      exact hone _ _ fun s e => by cases e
    · rename_i ht
      simp only [Option.some.injEq] at h; subst h
      obtain ⟨b, rfl, _⟩ := DataW.trod_bool ht hx
      exact hone _ _ fun s e => by cases e
    · rename_i ht
      simp only [Option.some.injEq] at h; subst h
      obtain ⟨s, rfl, rfl, hs⟩ := DataW.trod_string ht hx
      refine hone _ _ fun s' e => ?_
      cases e
      simp only [DataW.weights, List.all_cons, List.all_nil, Bool.and_true, decide_eq_true_eq] at hw
      simpa using hw
    · rename_i e ht
      split at h
      · rename_i l hl
        split at h
        · rename_i m hm hsz
          simp only [Option.some.injEq] at h; subst h
          simp only [Bool.and_eq_true, Nat.blt_eq] at hsz
          have hsz1 := Nat.eq_of_beq_eq_true hsz.1
          obtain ⟨hfl, hfg⟩ := flats_get l m hm
          rcases DataW.trod_slice ht hx with ⟨rfl, _⟩ | ⟨a, len, cap, elems, rest, n', _, rfl, rfl, _, h1, h2, h3, h4, _⟩
          · exact hone _ _ fun a len cap e => by cases e
          · refine hone _ _ fun a' len' cap' e' i j k hi hj u hu => ?_
            cases e'
            have he := h4 i hi
            obtain ⟨y, hy⟩ : ∃ y, elems[i]? = some y := ⟨elems[i]'(by omega), List.getElem?_eq_getElem (by omega)⟩
            have hmem : y ∈ elems := List.mem_of_getElem? hy
            rw [hy] at he
            simp only [Option.bind_eq_some_iff] at he
            obtain ⟨cs', hc1, hc2⟩ := he
            have hyw : (y.1.weights P e).all (· ≤ reachBytes) = true := by
              simp only [DataW.weights, ht, List.all_cons, Bool.and_eq_true, List.all_append] at hw
              rw [List.all_eq_true]
              intro q hq
              exact List.all_eq_true.1 hw.2.1 q (weightsAll_mem (List.mem_map.2 ⟨y, hmem, rfl⟩) hq)
            have g2 := arg_strs n e l hl n' cs' y hc2 hyw
            obtain ⟨_, _, hcell⟩ := World.cells?_some hc1
            have hjl : j < P.cellsOf e := by
              rw [hsz1, hfl]
              exact (List.getElem?_eq_some_iff.1 hj).1
            have hce := hcell j hjl
            rw [add_add, hsz1, hfl, hu] at hce
            exact g2 j (.flat k) u (hfg j k hj) hce.symm
        · cases h
      · cases h
    · rename_i fs ht
      split at h
      · rename_i l hl
        split at h
        · rename_i hsz
          simp only [Option.some.injEq] at h; subst h
          have hsz := Nat.eq_of_beq_eq_true hsz
          obtain ⟨xs, n', _, rfl, hlen, hxl, hf⟩ := DataW.trod_struct ht hx
          simp only [DataW.weights, ht] at hw
          have hall := weightsEach_all hw
          have key : ∀ (g : List Field) (off : Nat) (l : List AK), fieldsK P (argK P n) g off = some l →
              (∀ (i : Nat) (f : Field), g[i]? = some f → ∃ y, DataW.trod enc P w base0 spare held n' f.type ((cs.drop f.offset).take (P.cellsOf f.type)) = some y ∧ (y.1.weights P f.type).all (· ≤ reachBytes) = true) →
              ∀ (i : Nat) (k : AK) v, l[i]? = some k → cs[off + i]? = some v → smallC w k v := by
            intro g
            induction g with
            | nil => intro off l e _ i k v hk; simp only [fieldsK, Option.some.injEq] at e; subst e; simp at hk
            | cons f g ih =>
              intro off l e hall i k v hk hv
              simp only [fieldsK] at e
              split at e
              · rename_i l1 ho hl1
                split at e
                · rename_i l2 hs hl2
                  simp only [Option.some.injEq] at e; subst e
                  have ho := Nat.eq_of_beq_eq_true ho
                  have hs := Nat.eq_of_beq_eq_true hs
                  obtain ⟨y, hy, hyw⟩ := hall 0 f rfl
                  have a3 := arg_strs n f.type l1 hl1 n' _ y hy hyw
                  by_cases hi1 : i < l1.length
                  · rw [List.getElem?_append_left hi1] at hk
                    refine a3 i k v hk ?_
                    rw [List.getElem?_take_of_lt (by omega), List.getElem?_drop, ho]
                    exact hv
                  · rw [List.getElem?_append_right (by omega)] at hk
                    refine ih (off + l1.length) l2 hl2 (fun j f' hj => hall (j + 1) f' hj) (i - l1.length) k v hk ?_
                    rw [show off + l1.length + (i - l1.length) = off + i by omega]
                    exact hv
                · cases e
              · cases e
          intro i k v hk hv
          refine key fs.toList 0 l hl (fun j f hj => ?_) i k v hk (by simpa using hv)
          have hj' : fs[j]? = some f := by simpa using hj
          have hjl : j < fs.size := (Array.getElem?_eq_some_iff.1 hj').1
          refine ⟨xs[j]'(by omega), by rw [hf j f hj']; exact List.getElem?_eq_getElem (by omega), ?_⟩
          refine hall j f.type _ (by simp [hj']) ?_
          simp [List.getElem?_eq_getElem (show j < xs.length by omega)]
        · cases h
      · cases h
    · cases h
end

/-- no string of a table is longer than memory may be -/
def adsStr : List AD → Prop
  | [] => True
  | .tab n cols :: r => (∀ (j : Nat) g, cols[j]? = some (.strs g) → ∀ i, i < n → (g i).size ≤ reachBytes) ∧ adsStr r
  | _ :: r => adsStr r

theorem colsIs_len {n : Nat} : ∀ {l : List Kd} {cols : List Col}, colsIs n l cols → cols.length = l.length
  | [], [], _ => rfl
  | _ :: _, _ :: _, h => by simp [colsIs_len h.2]
  | [], _ :: _, h => h.elim
  | _ :: _, [], h => h.elim

theorem adsStr_of {σ : Sg} {w : World} : ∀ (as : List AD) (ks : List AK) (i : Nat) (cs : List Value), adsIs ks as → denL σ (svs as i) = cs → (∀ k b, look (heapOf as i) k = some b → bsat σ w k b) →
    (∀ (j : Nat) (k : AK) v, ks[j]? = some k → cs[j]? = some v → smallC w k v) → adsStr as
  | [], _, _, _, _, _, _, _ => trivial
  | a :: r, [], _, _, h, _, _, _ => h.elim
  | a :: r, k :: ks, i, cs, h, hd, hb, hs => by
    cases cs with
    | nil => cases a <;> simp [svs, denL] at hd
    | cons c cs =>
      have hr : ∀ (j : Nat) (k : AK) v, ks[j]? = some k → cs[j]? = some v → smallC w k v := fun j k v hk hv => hs (j + 1) k v (by simpa using hk) (by simpa using hv)
      cases a with
      | tab n cols =>
        simp only [svs, denL, List.cons.injEq] at hd
        obtain ⟨h1, h2⟩ := hd
        refine ⟨fun j g hj q hq => ?_, adsStr_of r ks (i + 1) cs h.2 h2 (fun k b hk => hb k b ?_) hr⟩
        · have hbs := hb i (.tab n cols false) (by simp [heapOf, look])
          cases k with
          | flat k => cases k <;> exact h.1.elim
          | slice l =>
            obtain ⟨_, hc⟩ := h.1
            have hlen := colsIs_len hc
            obtain ⟨b1, b2, b3, b4, _⟩ := hbs
            have h0 := hs 0 (.slice l) c rfl rfl
            have hnil : (σ i).nil = false := by
              cases hn : (σ i).nil with
              | false => rfl
              | true => have := b3 hn; omega
            simp only [den, hnil] at h1
            have hjl : j < l.length := by rw [← hlen]; exact (List.getElem?_eq_some_iff.1 hj).1
            have hcell := b4 q j _ hq hj
            refine h0 _ n _ h1.symm q j _ hq (List.getElem?_eq_getElem hjl) (.string (g q)) ?_ _ rfl
            rw [addr_add, ← hlen, ← b1]
            exact hcell
        · have := heapOf_ge r (i + 1) k b hk
          simp only [heapOf, look]
          split
          · rename_i he
            have := Nat.eq_of_beq_eq_true he
            omega
          · exact hk
      | int _ _ => simp only [svs, denL, List.cons.injEq] at hd; exact adsStr_of r ks i cs h.2 hd.2 hb hr
      | bool _ => simp only [svs, denL, List.cons.injEq] at hd; exact adsStr_of r ks i cs h.2 hd.2 hb hr
      | str _ => simp only [svs, denL, List.cons.injEq] at hd; exact adsStr_of r ks i cs h.2 hd.2 hb hr

theorem law_runsS {E : Env} (hE : CallsOk E P) (hm : P.follows .mixedOrders = true) {f : FuncId} {fn : Func} {c : Code} (hf : P.funcs[f]? = some fn) (hb : fn.body = some c) (hL : LoopsOk E P fn c 0)
    {t : TypeId} {n : Nat} {ks : List AK} (hst : isStructT P t = true) (hk : argK P n t = some ks) (hroom : roomK P n t = true) (hsmall : ks.length ≤ base)
    (hgo : ∀ as, adsIs ks as → adsSmall as → adsStr as → ∃ l, (evalF E P f [.agg (svs as 0)] (heapOf as 0) base).bare = .ret (.bool l true) [])
    {H : Type} {enc : TypeId × Value → H} {W : World} {b0 b1 : Nat} {v : Value} {d : DataW H} {ps : List MemPlace} {sp : Nat → Bool} {held : Bool} {r : Reach}
    (hval : Value.okWide P W r b1 t v) (htrod : DataW.Trod enc P W b0 sp held t v d ps) (hw : (d.weights P t).all (· ≤ reachBytes) = true) :
    Calls P f #[v] W fun e W' => e = .returned (.bool true) ∧ Below W.heap.size W W' := by
  obtain ⟨fs, ht⟩ : ∃ fs, P.underlying t = some (.struct fs) := by
    unfold isStructT at hst
    split at hst
    · rename_i fs ht; exact ⟨fs, ht⟩
    · cases hst
  obtain ⟨cs, rfl⟩ : ∃ cs, v = .agg cs := by
    unfold Value.okWide at hval
    rw [ht] at hval
    obtain ⟨cs, h, _⟩ := hval
    exact ⟨cs, h⟩
  obtain ⟨fuel, htrod⟩ := htrod
  have hcs : (Value.agg cs).cells.toList = cs.toList := rfl
  rw [hcs] at htrod
  obtain ⟨h1, h2⟩ := arg_trod n t ks hk fuel cs.toList _ htrod
  have hsm := arg_small n t ks hk hroom fuel cs.toList _ htrod hw
  obtain ⟨as, ents, h3, h4⟩ := build_args W ks cs.toList 0 h1 h2 (val_spot hval)
  obtain ⟨h5, h6⟩ := h4 ents fun _ _ => rfl
  have hs : HSat ents (heapOf as 0) W := ⟨h6, fun k b k' b' hk ho => by
    have := heapOf_rw as 0 k b hk
    exact (Blk.ow_false this ho).elim⟩
  have hst := arg_strs n t ks hk fuel cs.toList _ htrod hw
  obtain ⟨l, hl⟩ := hgo as h3 (adsSmall_of as 0 cs.toList h5 hsm) (adsStr_of as ks 0 cs.toList h3 h5 h6 hst)
  rw [bare_leaf] at hl
  generalize hlf : (evalF E P f [.agg (svs as 0)] (heapOf as 0) base).leaf = lf at hl
  cases lf with
  | ret v' H' =>
    simp only [Lf.bare, Lf.ret.injEq, and_true] at hl
    subst hl
    have hnames : ∀ (as : List AD) (i : Nat), SV.alL (lt (i + as.length)) (svs as i) = true ∧ Ev.hal (lt (i + as.length)) (heapOf as i) = true := by
      intro as
      induction as with
      | nil => intro i; exact ⟨rfl, rfl⟩
      | cons a as ih =>
        intro i
        have e : i + (a :: as).length = (i + 1) + as.length := by simp; omega
        cases a with
        | int k n =>
          obtain ⟨g1, g2⟩ := ih i
          exact ⟨by simp only [svs, SV.alL, SV.al, Bool.true_and]; exact SV.alL_mono (lt_mono (by simp)) _ g1, hal_mono (lt_mono (by simp)) _ g2⟩
        | bool b =>
          obtain ⟨g1, g2⟩ := ih i
          exact ⟨by simp only [svs, SV.alL, SV.al, Bool.true_and]; exact SV.alL_mono (lt_mono (by simp)) _ g1, hal_mono (lt_mono (by simp)) _ g2⟩
        | str s =>
          obtain ⟨g1, g2⟩ := ih i
          exact ⟨by simp only [svs, SV.alL, SV.al, Bool.true_and]; exact SV.alL_mono (lt_mono (by simp)) _ g1, hal_mono (lt_mono (by simp)) _ g2⟩
        | tab n cols =>
          obtain ⟨g1, g2⟩ := ih (i + 1)
          rw [e]
          have hi : lt (i + 1 + as.length) i = true := by simp only [lt, Nat.blt_eq]; omega
          exact ⟨by simp only [svs, SV.alL, SV.al, hi, g1, Bool.and_self], by simp only [heapOf, Ev.hal, hi, Blk.al, g2, Bool.and_self]⟩
    obtain ⟨g1, g2⟩ := hnames as 0
    have hle : 0 + as.length ≤ base := by rw [adsIs_length ks as h3]; omega
    have hargs : (denL ents [SV.agg (svs as 0)]).toArray = #[Value.agg cs] := by
      simp only [denL, den, h5]
    have := evalF_calls hE hm hf hb hL hs (hal_mono (lt_mono hle) _ g2) (by simp only [SV.alL, SV.al, Bool.and_true]; exact SV.alL_mono (lt_mono hle) _ g1) (Nat.le_refl _) hlf (R := fun e W' => e = .returned (.bool true) ∧ Below W.heap.size W W') fun σ' w' _ hwd => by
      refine ⟨by simp only [den], hwd.os, hwd.tape, hwd.output, hwd.size, fun j hj => hwd.old j hj ?_⟩
      rintro ⟨k, b, hk, ho, _⟩
      exact Blk.ow_false (heapOf_rw as 0 k b hk) ho
    rwa [hargs] at this
  | norm _ => simp [Lf.bare] at hl
  | exit _ _ => simp [Lf.bare] at hl
  | bad => simp [Lf.bare] at hl

end Go.Ev
end
