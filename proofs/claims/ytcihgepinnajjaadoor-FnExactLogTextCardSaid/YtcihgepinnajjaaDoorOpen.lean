/- Whatever is read as data of a type is of the kind that the printed contracts ask for: whole numbers, bools, strings, slices and structs of these. No condition. -/
import Derived.Deep.Slices
import Derived.ChangeArms
import Derived.WideShapes
import Derived.Test.YtcihgepinnajjaaDoorWWords
import Derived.Test.YtcihgepinnajjaaDoorWMore
namespace Go.Proofs.YtcihgepinnajjaaDoor.Opens
open Go.RowKit Go.Deep Go.ChangeShapes Go.WideShapes Go.Proofs.YtcihgepinnajjaaDoorW.PrintWords
def Opens {α : Type} (P : Program) (t : TypeId) (d : Kd α) (G : α → Prop) : Prop :=
  ∀ (H : Type) (enc : TypeId × Value → H) (w : World) (fuel : Nat) (cs : List Value) (x : DataW H × List MemPlace), DataW.trod enc P w 0 (fun _ => true) true fuel t cs = some x → ∃ y, d.K w y cs ∧ G y
variable {P : Program} {t e : TypeId} {α : Type}
theorem opens_int {k : IntKind} (ht : P.underlying t = some (.int k)) : Opens P t (Kd.int k) (fun x => (Lit.int k x).wf = true) := by
  intro H enc w fuel cs x h
  obtain ⟨n, rfl, rfl, hw⟩ := DataW.trod_int ht h
  exact ⟨n, rfl, hw⟩
theorem opens_bool (ht : P.underlying t = some .bool) : Opens P t Kd.bool (fun _ => True) := by
  intro H enc w fuel cs x h
  obtain ⟨b, rfl, rfl⟩ := DataW.trod_bool ht h
  exact ⟨b, rfl, trivial⟩
theorem opens_string (ht : P.underlying t = some .string) : Opens P t Kd.string (fun s => s.size ≤ maxLen) := by
  intro H enc w fuel cs x h
  obtain ⟨s, rfl, rfl, hs⟩ := DataW.trod_string ht h
  exact ⟨s, rfl, hs⟩
theorem opens_slice {d : Kd α} {G : α → Prop} (ht : P.underlying t = some (.slice e)) (hs : P.cellsOf e = d.sz) (hd : Opens P e d G) : Opens P t (Kd.slice e d) (fun xs => xs.length ≤ maxLen ∧ ∀ x ∈ xs, G x) := by
  intro H enc w fuel cs x h
  rcases open_slice ht h with ⟨rfl, rfl⟩ | ⟨a, len, cap, m, n, D, Pl, rfl, hb, hl, hm, hmm, rfl, hx⟩
  · exact ⟨[], ⟨none, 0, rfl, Nat.le_refl _, Kd.C_nil d w⟩, by simp, by simp⟩
  · have hlm : len ≤ m := by rw [hmm]; simp only [if_true]; exact hl
    have hy : ∀ i : Fin len, ∃ y, (∃ cs', cs'.length = d.sz ∧ d.K w y cs' ∧ ∀ j u, cs'[j]? = some u → w.cell? (a.add (i.1 * d.sz + j)) = some u) ∧ G y := by
      intro i
      obtain ⟨cs', h1, h2⟩ := hx i.1 (by have := i.2; omega)
      obtain ⟨y, hK, hG⟩ := hd H enc w n cs' _ h2
      obtain ⟨_, hlen, hcell⟩ := World.cells?_some h1
      refine ⟨y, ⟨cs', by rw [hlen, hs], hK, fun j u hu => ?_⟩, hG⟩
      have hj : j < P.cellsOf e := by
        have := (List.getElem?_eq_some_iff.1 hu).1
        omega
      have := hcell j hj
      rw [Go.Deep.add_add, hs] at this
      rw [this, hu]
    let f : Fin len → α := fun i => Classical.choose (hy i)
    have hf : ∀ i, _ := fun i => Classical.choose_spec (hy i)
    have hlen : (List.ofFn f).length = len := by simp
    refine ⟨List.ofFn f, ⟨some a, cap, by rw [hlen], by rw [hlen]; exact hl, ?_⟩, by rw [hlen]; exact Nat.le_trans hl hm, ?_⟩
    · refine ⟨rfl, ?_, fun _ => ⟨a, rfl, fun j p hp => ?_⟩⟩
      · have : maxLen ≤ 9223372036854775807 := by decide
        rw [hlen]
        exact Nat.le_trans (Nat.le_trans hl hm) this
      · obtain ⟨hj, hp⟩ := List.getElem?_eq_some_iff.1 hp
        rw [List.getElem_ofFn] at hp
        have hj' : j < len := by rw [hlen] at hj; exact hj
        obtain ⟨⟨cs', h1, h2, h3⟩, _⟩ := hf ⟨j, hj'⟩
        exact ⟨cs', h1, by rw [← hp]; exact h2, h3⟩
    · intro x hx
      obtain ⟨i, rfl⟩ := List.mem_ofFn.1 hx
      exact (hf i).2
/-- A slice that is handed in. -/
theorem slice_arg {H : Type} {enc : TypeId × Value → H} {d : Kd α} {G : α → Prop} {w : World} {a : Option Addr} {len cap : Nat} {x : DataW H} {p : List MemPlace} (ht : P.underlying t = some (.slice e)) (hs : P.cellsOf e = d.sz) (hd : Opens P e d G)
    (h : DataW.Trod enc P w 0 (fun _ => true) true t (.slice a len cap) x p) : ∃ l : List α, len = l.length ∧ d.C w a l.length l ∧ l.length ≤ cap ∧ l.length ≤ maxLen ∧ ∀ y ∈ l, G y := by
  obtain ⟨fuel, h⟩ := h
  have h' : DataW.trod enc P w 0 (fun _ => true) true fuel t [.slice a len cap] = some (x, p) := h
  obtain ⟨l, ⟨A, c, he, hl, hC⟩, hm, hG⟩ := opens_slice ht hs hd H enc w fuel _ _ h'
  injection he with he _
  injection he with h1 h2 h3
  subst h1 h2 h3
  exact ⟨l, rfl, hC, hl, hm, hG⟩
theorem struct_arg {H : Type} {enc : TypeId × Value → H} {d : Kd α} {G : α → Prop} {w : World} {cs : Array Value} {x : DataW H} {p : List MemPlace} (hd : Opens P t d G)
    (h : DataW.Trod enc P w 0 (fun _ => true) true t (.agg cs) x p) : ∃ y : α, d.K w y cs.toList ∧ G y := by
  obtain ⟨fuel, h⟩ := h
  exact hd H enc w fuel _ _ h
/-- One field of a struct. -/
theorem field_of {H : Type} {enc : TypeId × Value → H} {fs : Array Field} {w : World} {n : Nat} {cs : List Value} {xs : List (DataW H × List MemPlace)} {d : Kd α} {G : α → Prop} (i : Nat) (f : Field) (hi : fs[i]? = some f) (hlen : xs.length = fs.size)
    (hf : ∀ (i : Nat) (f : Field), fs[i]? = some f → DataW.trod enc P w 0 (fun _ => true) true n f.type ((cs.drop f.offset).take (P.cellsOf f.type)) = xs[i]?)
    (hd : Opens P f.type d G) : ∃ y, d.K w y ((cs.drop f.offset).take (P.cellsOf f.type)) ∧ G y := by
  have h := hf i f hi
  have hlt : i < xs.length := by
    rw [hlen]
    exact (Array.getElem?_eq_some_iff.1 hi).1
  rw [List.getElem?_eq_getElem hlt] at h
  exact hd H enc w n _ _ h
theorem field_at {H : Type} {enc : TypeId × Value → H} {fs : Array Field} {w : World} {n : Nat} {cs : List Value} {xs : List (DataW H × List MemPlace)} {d : Kd α} {G : α → Prop} (i off sz : Nat) (f : Field) (hi : fs[i]? = some f) (ho : f.offset = off) (hs : P.cellsOf f.type = sz) (hlen : xs.length = fs.size)
    (hf : ∀ (i : Nat) (f : Field), fs[i]? = some f → DataW.trod enc P w 0 (fun _ => true) true n f.type ((cs.drop f.offset).take (P.cellsOf f.type)) = xs[i]?)
    (hd : Opens P f.type d G) : ∃ y, d.K w y ((cs.drop off).take sz) ∧ G y := by
  subst ho hs
  exact field_of i f hi hlen hf hd
theorem cut_off (cs : List Value) (a b : Nat) (h : cs.length - a ≤ b) : (cs.drop a).take b = cs.drop a := List.take_of_length_le (by simpa using h)
theorem cut_one (cs : List Value) (a b : Nat) : cs.drop a = (cs.drop a).take b ++ cs.drop (a + b) := by
  have := (List.take_append_drop b (cs.drop a)).symm
  rwa [List.drop_drop] at this
theorem calls_eq {P : Program} {f : FuncId} {xs_ ys_ : Array Value} {W : World} {Q : Ending → World → Prop} (h : xs_ = ys_) (hc : Calls P f xs_ W Q) : Calls P f ys_ W Q := h ▸ hc
end Go.Proofs.YtcihgepinnajjaaDoor.Opens
