/- What every law's row shares: arguments of any plain kind are opened into lists, texts and numbers, with the bound on their bulk; and the row is closed by what the walk says: it returns true, and below the heap's old size nothing has turned. -/
import Derived.Test.YtlkacodngjdagaaDoorRows
import Derived.Test.YtlkacodngjdagaaDoorWWords
import Derived.WalkKit
import Derived.ProofKit
import Derived.OpenShut
import Derived.Deep.DeepHandedRow
import Derived.Deep.Slices
import Derived.Carry
namespace Go.Proofs.YtlkacodngjdagaaDoor.Frame
open Go Go.RowKit Go.ChangeShapes Go.WideShapes Go.ChangeAt Go.Proofs.YtlkacodngjdagaaDoorW.PrintWords
set_option linter.unusedVariables false

/-! ### bulk -/
theorem one_le {H : Type} (d : DataW H) : 1 ≤ Rows.uptoBulk d := by
  cases d with
  | lit l => cases l <;> simp [Rows.uptoBulk]
  | nil => simp [Rows.uptoBulk]
  | ptr d => simp [Rows.uptoBulk]
  | slice elems spare => simp [Rows.uptoBulk]
  | agg parts => simp [Rows.uptoBulk]
  | iface t d => simp [Rows.uptoBulk]
  | map entries => simp [Rows.uptoBulk]
  | held h => simp [Rows.uptoBulk]
theorem bulk_append {H : Type} (l r : List (DataW H)) : Rows.uptoBulkAll (l ++ r) = Rows.uptoBulkAll l + Rows.uptoBulkAll r := by
  induction l with
  | nil => simp [Rows.uptoBulkAll]
  | cons x l ih => simp only [List.cons_append, Rows.uptoBulkAll, ih]; omega
theorem bulk_small {H : Type} {l : List (DataW H)} (hk : Rows.uptoSmall H l = true) : Rows.uptoBulkAll l ≤ 1048576 := of_decide_eq_true hk

/-! ### kinds of arguments -/
structure Arg (α : Type) where
  kd : Kd α
  bulk : α → Nat
  wf : α → Prop

def sumOf {α : Type} (f : α → Nat) : List α → Nat
  | [] => 0
  | x :: r => f x + sumOf f r
theorem sumOf_mem {α : Type} (f : α → Nat) {l : List α} {x : α} (h : x ∈ l) : f x ≤ sumOf f l := by
  induction l with
  | nil => cases h
  | cons y r ih =>
    simp only [sumOf]
    rcases List.mem_cons.1 h with rfl | h
    · omega
    · have := ih h; omega
theorem sumOf_length {α : Type} (f : α → Nat) (hf : ∀ x, 1 ≤ f x) (l : List α) : l.length ≤ sumOf f l := by
  induction l with
  | nil => simp [sumOf]
  | cons y r ih => have := hf y; simp only [sumOf, List.length_cons]; omega

def Arg.int (k : IntKind) : Arg Int := ⟨Kd.int k, fun _ => 1, fun n => (Lit.int k n).wf = true⟩
def Arg.bool : Arg Bool := ⟨Kd.bool, fun _ => 1, fun _ => True⟩
def Arg.str : Arg ByteArray := ⟨Kd.string, fun s => s.size + 1, fun _ => True⟩
def Arg.slice {α : Type} (e : Nat) (a : Arg α) : Arg (List α) := ⟨Kd.slice e a.kd, fun xs => sumOf a.bulk xs + 1, fun xs => ∀ x ∈ xs, a.wf x⟩
def Arg.pair {α β : Type} (a : Arg α) (b : Arg β) : Arg (α × β) := ⟨Kd.pair a.kd b.kd, fun x => a.bulk x.1 + b.bulk x.2, fun x => a.wf x.1 ∧ b.wf x.2⟩
def Arg.iso {α β : Type} (a : Arg α) (f : β → α) : Arg β := ⟨Kd.iso a.kd f, fun x => a.bulk (f x), fun x => a.wf (f x)⟩

/-- Whatever reads at type t is of this kind. -/
def Opens {α : Type} (P : Program) (t : TypeId) (a : Arg α) : Prop :=
  P.cellsOf t = a.kd.sz ∧ (∀ x, 1 ≤ a.bulk x) ∧ ∀ (H : Type) (enc : TypeId × Value → H) (W : World) (fuel : Nat) (cs : List Value) (x : DataW H × List MemPlace),
    DataW.trod enc P W 0 (fun _ => true) true fuel t cs = some x → ∃ y, a.kd.K W y cs ∧ a.bulk y ≤ Rows.uptoBulk x.1 ∧ a.wf y

theorem opens_int {P : Program} {t : TypeId} {k : IntKind} (ht : P.underlying t = some (.int k)) (hc : P.cellsOf t = 1) : Opens P t (Arg.int k) := by
  refine ⟨hc, fun _ => Nat.le_refl _, fun H enc W fuel cs x h => ?_⟩
  obtain ⟨n, rfl, rfl, hw⟩ := DataW.trod_int ht h
  exact ⟨n, rfl, one_le _, hw⟩
theorem opens_bool {P : Program} {t : TypeId} (ht : P.underlying t = some .bool) (hc : P.cellsOf t = 1) : Opens P t Arg.bool := by
  refine ⟨hc, fun _ => Nat.le_refl _, fun H enc W fuel cs x h => ?_⟩
  obtain ⟨n, rfl, rfl⟩ := DataW.trod_bool ht h
  exact ⟨n, rfl, one_le _, trivial⟩
theorem opens_str {P : Program} {t : TypeId} (ht : P.underlying t = some .string) (hc : P.cellsOf t = 1) : Opens P t Arg.str := by
  refine ⟨hc, fun _ => by simp [Arg.str], fun H enc W fuel cs x h => ?_⟩
  obtain ⟨s, rfl, rfl, hw⟩ := DataW.trod_string ht h
  refine ⟨s, rfl, ?_, trivial⟩
  simp only [Arg.str, Rows.uptoBulk, Array.length_toList]
  exact Nat.le_refl _

theorem list_of {α : Type} {Pr : Nat → α → Prop} : ∀ m, (∀ i, i < m → ∃ y, Pr i y) → ∃ ys : List α, ys.length = m ∧ ∀ i y, ys[i]? = some y → Pr i y := by
  intro m
  induction m with
  | zero => exact fun _ => ⟨[], rfl, fun i y h => by simp at h⟩
  | succ m ih =>
    intro h
    obtain ⟨ys, hl, hy⟩ := ih (fun i hi => h i (by omega))
    obtain ⟨y, hp⟩ := h m (by omega)
    refine ⟨ys ++ [y], by simp [hl], fun i z hz => ?_⟩
    rcases Nat.lt_or_ge i ys.length with hi | hi
    · rw [List.getElem?_append_left hi] at hz
      exact hy i z hz
    · have hi' : i = ys.length := by
        have := (List.getElem?_eq_some_iff.1 hz).1
        rw [List.length_append, List.length_singleton] at this
        omega
      subst hi'
      have : y = z := by simpa using hz
      rw [← this, hl]
      exact hp

theorem bulkAll_of {α H : Type} (b : α → Nat) : ∀ (ys : List α) (ds : List (DataW H)), ys.length ≤ ds.length → (∀ (i : Nat) y d, ys[i]? = some y → ds[i]? = some d → b y ≤ Rows.uptoBulk d) → sumOf b ys ≤ Rows.uptoBulkAll ds := by
  intro ys
  induction ys with
  | nil => intro ds _ _; simp [sumOf]
  | cons y r ih =>
    intro ds hl h
    cases ds with
    | nil => simp at hl
    | cons d ds =>
      have h1 := h 0 y d rfl rfl
      have h2 := ih ds (by simpa using hl) (fun i y' d' hy hd => h (i + 1) y' d' (by simpa using hy) (by simpa using hd))
      simp only [sumOf, Rows.uptoBulkAll]
      omega

theorem opens_slice {α : Type} {P : Program} {t e : TypeId} {a : Arg α} (ht : P.underlying t = some (.slice e)) (hc : P.cellsOf t = 1) (ha : Opens P e a) : Opens P t (Arg.slice e a) := by
  obtain ⟨hce, hb1, hop⟩ := ha
  refine ⟨hc, fun x => by simp [Arg.slice], fun H enc W fuel cs x h => ?_⟩
  rcases Deep.open_slice ht h with ⟨rfl, rfl⟩ | ⟨ad, len, cap, m, n, D, Pl, rfl, _, hlc, hcm, hm, rfl, hel⟩
  · exact ⟨[], ⟨none, 0, rfl, Nat.le_refl _, rfl, by simp, fun h => absurd h (by simp)⟩, one_le _, fun x hx => by cases hx⟩
  · simp only [if_true] at hm
    subst hm
    obtain ⟨ys, hl, hy⟩ := list_of (Pr := fun i y => ∃ cs', W.cells? 0 (ad.add (i * P.cellsOf e)) (P.cellsOf e) = some cs' ∧ a.kd.K W y cs' ∧ a.bulk y ≤ Rows.uptoBulk (D i) ∧ a.wf y) len (fun i hi => by
      obtain ⟨cs', h1, h2⟩ := hel i (by omega)
      obtain ⟨y, h3, h4, h5⟩ := hop H enc W n cs' _ h2
      exact ⟨y, cs', h1, h3, h4, h5⟩)
    refine ⟨ys, ⟨some ad, m, by rw [hl], by omega, by omega, by simp only [maxLen] at hcm; omega, fun hn => ⟨ad, rfl, fun j p hj => ?_⟩⟩, ?_, fun x hx => ?_⟩
    · obtain ⟨cs', h1, h3, h4, h5⟩ := hy j p hj
      obtain ⟨_, hlen, hc2⟩ := World.cells?_some h1
      refine ⟨cs', by rw [hlen, hce], h3, fun i u hu => ?_⟩
      have hi : i < P.cellsOf e := by rw [← hlen]; exact (List.getElem?_eq_some_iff.1 hu).1
      have := hc2 i hi
      rw [hu] at this
      rw [← this, hce]
      congr 1
      unfold Addr.add
      by_cases hz : j * a.kd.sz = 0
      · simp [hz]
      · by_cases hi0 : i = 0
        · simp [hi0]
        · simp [hz, hi0, Nat.add_assoc]
    · simp only [Arg.slice, Rows.uptoBulk]
      have := bulkAll_of (H := H) a.bulk ys ((List.range len).map D) (by simp [hl]) (fun i y d h1 h2 => by
        have hi : i < len := by rw [← hl]; exact (List.getElem?_eq_some_iff.1 h1).1
        obtain ⟨_, _, _, h4, _⟩ := hy i y h1
        have e : D i = d := by simpa [hi] using h2
        rw [← e]
        exact h4)
      omega
    · obtain ⟨j, hj⟩ := List.getElem?_of_mem hx
      obtain ⟨_, _, _, _, h5⟩ := hy j x hj
      exact h5

/-- Fields from an offset on. -/
def OpensF {α : Type} (P : Program) (fs : List Field) (off : Nat) (a : Arg α) : Prop :=
  (∀ x, 1 ≤ a.bulk x) ∧ ∀ (H : Type) (enc : TypeId × Value → H) (W : World) (n : Nat) (cs : List Value) (xs : List (DataW H × List MemPlace)), xs.length = fs.length → cs.length = off + a.kd.sz →
    (∀ (i : Nat) (f : Field), fs[i]? = some f → DataW.trod enc P W 0 (fun _ => true) true n f.type ((cs.drop f.offset).take (P.cellsOf f.type)) = xs[i]?) →
    ∃ y, a.kd.K W y (cs.drop off) ∧ a.bulk y ≤ Rows.uptoBulkAll (xs.map (·.1)) ∧ a.wf y

theorem opensF_one {α : Type} {P : Program} {f : Field} {off : Nat} {a : Arg α} (ho : f.offset = off) (ha : Opens P f.type a) : OpensF P [f] off a := by
  obtain ⟨hce, hb1, hop⟩ := ha
  refine ⟨hb1, fun H enc W n cs xs hl hcs h => ?_⟩
  match xs, hl with
  | [x], _ =>
    have h0 := h 0 f rfl
    rw [ho, hce, List.take_of_length_le (by rw [List.length_drop, hcs]; omega)] at h0
    obtain ⟨y, h1, h2, h3⟩ := hop H enc W n _ _ h0
    exact ⟨y, h1, by simpa [Rows.uptoBulkAll] using h2, h3⟩

theorem opensF_cons {α β : Type} {P : Program} {f : Field} {fs : List Field} {off : Nat} {a : Arg α} {b : Arg β} (ho : f.offset = off) (ha : Opens P f.type a) (hb : OpensF P fs (off + a.kd.sz) b) : OpensF P (f :: fs) off (Arg.pair a b) := by
  obtain ⟨hce, hb1, hop⟩ := ha
  obtain ⟨hb2, hop2⟩ := hb
  refine ⟨fun x => by have := hb1 x.1; simp only [Arg.pair]; omega, fun H enc W n cs xs hl hcs h => ?_⟩
  match xs, hl with
  | x :: xs, hl =>
    have h0 := h 0 f rfl
    rw [ho, hce] at h0
    obtain ⟨y, h1, h2, h3⟩ := hop H enc W n _ _ h0
    have hsz : (Arg.pair a b).kd.sz = a.kd.sz + b.kd.sz := rfl
    obtain ⟨z, k1, k2, k3⟩ := hop2 H enc W n cs xs (by simpa using hl) (by rw [hcs, hsz]; omega) (fun i g hg => by simpa using h (i + 1) g (by simpa using hg))
    refine ⟨(y, z), ⟨(cs.drop off).take a.kd.sz, cs.drop (off + a.kd.sz), ?_, h1, k1⟩, ?_, h3, k3⟩
    · rw [← List.drop_drop, List.take_append_drop]
    · simp only [Arg.pair, List.map_cons, Rows.uptoBulkAll]
      omega

theorem opens_struct {α : Type} {P : Program} {t : TypeId} {fs : Array Field} {a : Arg α} (ht : P.underlying t = some (.struct fs)) (hc : P.cellsOf t = a.kd.sz) (ha : OpensF P fs.toList 0 a) : Opens P t a := by
  refine ⟨hc, ha.1, fun H enc W fuel cs x h => ?_⟩
  obtain ⟨xs, n, rfl, rfl, hl, hxl, hf⟩ := DataW.trod_struct ht h
  obtain ⟨y, h1, h2, h3⟩ := ha.2 H enc W n cs xs (by simpa using hxl) (by rw [hl, hc]; omega) (fun i f hif => hf i f (by simpa using hif))
  refine ⟨y, by simpa using h1, ?_, h3⟩
  simp only [Rows.uptoBulk]
  omega

theorem opens_iso {α β : Type} {P : Program} {t : TypeId} {a : Arg α} (f : β → α) (g : α → β) (hg : ∀ x, f (g x) = x) (ha : Opens P t a) : Opens P t (Arg.iso a f) := by
  obtain ⟨hce, hb1, hop⟩ := ha
  refine ⟨hce, fun x => hb1 _, fun H enc W fuel cs x h => ?_⟩
  obtain ⟨y, h1, h2, h3⟩ := hop H enc W fuel cs x h
  exact ⟨g y, by show a.kd.K W (f (g y)) cs; rw [hg]; exact h1, by show a.bulk (f (g y)) ≤ _; rw [hg]; exact h2, by show a.wf (f (g y)); rw [hg]; exact h3⟩

/-- An argument, opened: its value's cells, its bulk. -/
theorem opens_arg {α H : Type} {enc : TypeId × Value → H} {P : Program} {t : TypeId} {a : Arg α} {W : World} {v : Value} {d : DataW H} {ps : List MemPlace} (ha : Opens P t a) (h : DataW.Trod enc P W 0 (fun _ => true) true t v d ps) :
    ∃ y, a.kd.K W y v.cells.toList ∧ a.bulk y ≤ Rows.uptoBulk d ∧ a.wf y := by
  obtain ⟨n, hn⟩ := h
  exact ha.2.2 H enc W n _ _ hn

/-! ### the row -/
theorem trodAll_below {H : Type} {enc : TypeId × Value → H} {P : Program} (hl : laidOutB P = true) {W W' : World} (hb : Below W.heap.size W W') : ∀ (ts : List TypeId) (vs : List Value) (ds : List (DataW H)) (ps : List MemPlace),
    (∀ t ∈ ts, P.readableRec t = true ∧ t < P.types.size) → DataW.TrodAll enc P W 0 (fun _ => true) true ts vs ds ps → (∀ x ∈ ps, x.block < W.heap.size) →
    DataW.TrodAll enc P W' 0 (fun b => decide (b < W.heap.size)) true ts vs ds ps := by
  intro ts
  induction ts with
  | nil =>
    intro vs ds ps _ h _
    obtain ⟨rfl, rfl, rfl⟩ := trodAll_nil h
    exact rfl
  | cons t ts ih =>
    intro vs ds ps ht h hlt
    obtain ⟨v0, vs0, d0, ds0, p0, q0, rfl, rfl, rfl, h0, r0⟩ := trodAll_cons h
    exact ⟨p0, q0, Below.trod hl (ht t List.mem_cons_self).1 (ht t List.mem_cons_self).2 h0 hb (fun x hx => hlt x (List.mem_append_left _ hx)),
      ih vs0 ds0 q0 (fun t' h' => ht t' (List.mem_cons_of_mem _ h')) r0 (fun x hx => hlt x (List.mem_append_right _ hx)), rfl⟩

theorem law_post {H : Type} {enc : TypeId × Value → H} {P : Program} (hl : laidOutB P = true) {fn : Func} {s : ChangeSpec} {bt : TypeId} (hbt : P.underlying bt = some .bool) (hres : fn.resultTypes = #[bt])
    (hro : ∀ t ∈ fn.params.toList, P.readableRec t = true ∧ t < P.types.size) (hv : s.vars = [])
    {W : World} {args : Array Value} {ds gs : List (DataW H)} {before : List MemPlace} (hW : DataW.Whole enc P fn.params.toList s.vars false W args.toList ds gs before)
    (hs1 : (s.fn H (ds ++ gs)).results = [.lit (.bool true)]) (hs2 : (s.fn H (ds ++ gs)).args = ds) (hs3 : (s.fn H (ds ++ gs)).vars = []) {W' : World} (hb : Below W.heap.size W W') :
    s.post enc P fn false true false false W args (.bool true) W' := by
  have hW' := hW
  obtain ⟨p, q, hA, hV, rfl, hfz, hnd⟩ := hW
  have hlt := hW'.lt
  refine ⟨ds, gs, p ++ q, [], p, [], hW', ?_, ?_, ?_, hb.frame _, fun h => by cases h⟩
  · rw [hs1, hres]
    exact trodAll_mk1 (shut_bool hbt _)
  · rw [hs2]
    exact trodAll_below hl hb _ _ _ _ hro hA (fun x hx => hlt x (List.mem_append_left _ hx))
  · rw [hs3, hv]
    exact rfl

end Go.Proofs.YtlkacodngjdagaaDoor.Frame
