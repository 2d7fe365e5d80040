/- What the rows' readings of arguments tell in this session's words. -/
import Derived.Test.YtailhdcackkegaaRows
import Derived.Test.YtailhdcackkegaaTy
import Derived.ChangeArms
import Derived.DataReads
namespace Go.Proofs.Ytailhdcackkegaa.Wd
open Go.RowKit
set_option linter.unusedVariables false
set_option linter.unusedSimpArgs false

theorem bulk_one {H : Type} (d : DataW H) : 1 ≤ Rows.uptoBulk d := by
  cases d with
  | lit l => cases l <;> simp [Rows.uptoBulk]
  | _ => simp [Rows.uptoBulk]
theorem bulk_part {H : Type} {d : DataW H} : ∀ {l : List (DataW H)}, d ∈ l → Rows.uptoBulk d ≤ Rows.uptoBulkAll l
  | [], h => by cases h
  | x :: r, h => by
    simp only [Rows.uptoBulkAll]
    rcases List.mem_cons.1 h with rfl | h
    · omega
    · have := bulk_part h; omega
theorem bulk_len {H : Type} : ∀ l : List (DataW H), l.length ≤ Rows.uptoBulkAll l
  | [] => by simp [Rows.uptoBulkAll]
  | x :: r => by have := bulk_one x; have := bulk_len r; simp only [Rows.uptoBulkAll, List.length_cons]; omega

/-- The bound of the rows' second form. -/
def bLim : Nat := 1048576
theorem bLim_eq : bLim = 1048576 := rfl
/-- What cells of type t read as, is of kind k, and such that wf. -/
structure Opens {α : Type} (P : Program) (t : TypeId) (k : Kd α) (wf : α → Prop) : Prop where
  out : ∀ {H : Type} (enc : TypeId × Value → H) (w : World) (spare : Nat → Bool) (held : Bool) (fuel : Nat) (cs : List Value) (d : DataW H) (ps : List MemPlace),
    DataW.trod enc P w 0 spare held fuel t cs = some (d, ps) → Rows.uptoBulk d ≤ bLim → ∃ x, k.rd (fun _ => True) w cs x ∧ wf x
theorem Opens.int {P : Program} {t : TypeId} (ht : P.underlying t = some (.int .i64)) : Opens P t kInt (fun n => -9223372036854775808 ≤ n ∧ n ≤ 9223372036854775807) := by
  constructor
  intro H enc w spare held fuel cs d ps h _
  obtain ⟨n, rfl, _, hw⟩ := DataW.trod_int ht h
  refine ⟨n, rfl, ?_⟩
  simp [Lit.wf, IntKind.min, IntKind.max, IntKind.signed, IntKind.bits] at hw
  omega
theorem Opens.bool {P : Program} {t : TypeId} (ht : P.underlying t = some .bool) : Opens P t Kd.bool (fun _ => True) := by
  constructor
  intro H enc w spare held fuel cs d ps h _
  obtain ⟨n, rfl, _⟩ := DataW.trod_bool ht h
  exact ⟨n, rfl, trivial⟩
theorem Opens.str {P : Program} {t : TypeId} (ht : P.underlying t = some .string) : Opens P t Kd.str (fun s => s.size ≤ bLim) := by
  constructor
  intro H enc w spare held fuel cs d ps h hb
  obtain ⟨n, rfl, hx, _⟩ := DataW.trod_string ht h
  injection hx with hx _
  subst hx
  refine ⟨n, rfl, ?_⟩
  have h2 : Rows.uptoBulk (DataW.lit (H := H) (.string n.data.toList)) = n.data.toList.length + 1 := by simp [Rows.uptoBulk]
  rw [h2] at hb
  have h3 : n.size = n.data.toList.length := rfl
  omega
/-- Fields from place o on. -/
structure OpensF {α : Type} (P : Program) (fs : List Field) (o : Nat) (k : Kd α) (wf : α → Prop) : Prop where
  out : ∀ {H : Type} (enc : TypeId × Value → H) (w : World) (spare : Nat → Bool) (held : Bool) (fuel : Nat) (cs : List Value) (xs : List (DataW H × List MemPlace)), cs.length = o + k.sz → xs.length = fs.length →
    (∀ (i : Nat) (f : Field), fs[i]? = some f → DataW.trod enc P w 0 spare held fuel f.type ((cs.drop f.offset).take (P.cellsOf f.type)) = xs[i]?) → Rows.uptoBulkAll (xs.map (·.1)) ≤ bLim → ∃ x, k.rd (fun _ => True) w (cs.drop o) x ∧ wf x
theorem OpensF.one {α : Type} {P : Program} {f : Field} {o : Nat} {k : Kd α} {wf : α → Prop} (ho : f.offset = o) (hc : P.cellsOf f.type = k.sz) (h : Opens P f.type k wf) : OpensF P [f] o k wf := by
  constructor
  intro H enc w spare held fuel cs xs hl hx hi hb
  obtain ⟨x, rfl⟩ : ∃ x, xs = [x] := by cases xs with | nil => simp at hx | cons x r => cases r with | nil => exact ⟨x, rfl⟩ | cons _ _ => simp at hx
  have h1 := hi 0 f rfl
  rw [ho, hc, List.take_of_length_le (by simp; omega)] at h1
  exact h.out enc w spare held fuel _ x.1 x.2 h1 (by simpa [Rows.uptoBulkAll] using hb)
theorem OpensF.cons {α β : Type} {P : Program} {f : Field} {fs : List Field} {o : Nat} {d : Kd α} {e : Kd β} {wf : α → Prop} {wg : β → Prop} (ho : f.offset = o) (hc : P.cellsOf f.type = d.sz) (h : Opens P f.type d wf) (hr : OpensF P fs (o + d.sz) e wg) :
    OpensF P (f :: fs) o (d.pair e) (fun x => wf x.1 ∧ wg x.2) := by
  constructor
  intro H enc w spare held fuel cs xs hl hx hi hb
  cases xs with
  | nil => simp at hx
  | cons x xs =>
    have hl2 : cs.length = o + (d.sz + e.sz) := hl
    have h1 := hi 0 f rfl
    rw [ho, hc] at h1
    simp only [List.map_cons, Rows.uptoBulkAll] at hb
    obtain ⟨a, ha, hwa⟩ := h.out enc w spare held fuel _ x.1 x.2 h1 (by omega)
    obtain ⟨b, hb2, hwb⟩ := hr.out enc w spare held fuel cs xs (by omega) (by simpa using hx) (fun i g hg => hi (i + 1) g hg) (by omega)
    refine ⟨(a, b), ⟨(cs.drop o).take d.sz, cs.drop (o + d.sz), ?_, ha, hb2⟩, hwa, hwb⟩
    rw [← List.drop_drop, List.take_append_drop]
theorem Opens.struct {α : Type} {P : Program} {t : TypeId} {fs : Array Field} {k : Kd α} {wf : α → Prop} (ht : P.underlying t = some (.struct fs)) (hc : P.cellsOf t = k.sz) (h : OpensF P fs.toList 0 k wf) : Opens P t k wf := by
  constructor
  intro H enc w spare held fuel cs d ps hd hb
  obtain ⟨xs, n, rfl, hx, hl, hlen, hi⟩ := DataW.trod_struct ht hd
  injection hx with hx _
  subst hx
  have := h.out enc w spare held n cs xs (by omega) (by simpa using hlen) (fun i f hf => hi i f (by simpa using hf)) (by simp only [Rows.uptoBulk] at hb; omega)
  simpa using this
theorem Opens.via {α β : Type} {P : Program} {t : TypeId} {k : Kd α} {wf : α → Prop} (h : Opens P t k wf) (f : β → α) (g : α → β) (hg : ∀ x, f (g x) = x) : Opens P t (k.via f) (fun y => wf (f y)) := by
  constructor
  intro H enc w spare held fuel cs d ps hd hb
  obtain ⟨x, hx, hw⟩ := h.out enc w spare held fuel cs d ps hd hb
  exact ⟨g x, by show k.rd _ _ _ (f (g x)); rw [hg]; exact hx, by show wf (f (g x)); rw [hg]; exact hw⟩
theorem Opens.imp {α : Type} {P : Program} {t : TypeId} {k : Kd α} {wf wg : α → Prop} (h : Opens P t k wf) (hw : ∀ x, wf x → wg x) : Opens P t k wg := ⟨fun enc w spare held fuel cs d ps hd hb =>
  let ⟨x, hx, hx2⟩ := h.out enc w spare held fuel cs d ps hd hb; ⟨x, hx, hw x hx2⟩⟩
theorem cells_range {w : World} {a : Addr} {n : Nat} {cs : List Value} (h : w.cells? 0 a n = some cs) (hn : 0 < n) : a.spot = none ∧ w.rangeAt a.block a.off cs := by
  obtain ⟨_, hl, hc⟩ := World.cells?_some h
  have key : ∀ j v, cs[j]? = some v → w.cell? (a.add j) = some v := by
    intro j v hv
    have hj := (List.getElem?_eq_some_iff.1 hv).1
    rw [hc j (by omega)]
    exact hv
  have hc0 : 0 < cs.length := by omega
  have h0 := key 0 _ (List.getElem?_eq_getElem hc0)
  have hs : a.spot = none := by
    unfold World.cell? at h0
    split at h0
    · split at h0
      · cases h0
      · rename_i hsp
        simpa [Addr.add] using hsp
    · cases h0
  refine ⟨hs, fun j v hv => ?_⟩
  have := key j v hv
  obtain ⟨b, o, s⟩ := a
  simp at hs
  subst hs
  rwa [Addr.add_mid] at this
theorem Opens.sl {α : Type} {P : Program} {t e : TypeId} {k : Kd α} {wf : α → Prop} (hz : 0 < k.sz) (ht : P.underlying t = some (.slice e)) (hc : P.cellsOf e = k.sz) (h : Opens P e k wf) : Opens P t (k.sl hz) (fun xs => xs.length ≤ bLim ∧ ∀ x ∈ xs, wf x) := by
  constructor
  intro H enc w spare held fuel cs d ps hd hb
  rcases DataW.trod_slice ht hd with ⟨rfl, hx⟩ | ⟨a, len, cap, elems, rest, n, rfl, rfl, hx, _, hlc, _, hlen, hel, _, _⟩
  · exact ⟨[], ⟨_, rfl, Sl.nil _ _ _⟩, by simp, by simp⟩
  · injection hx with hx _
    subst hx
    have hb2 : Rows.uptoBulkAll (elems.map (·.1)) ≤ bLim := by simp only [Rows.uptoBulk] at hb; omega
    have hle := bulk_len (elems.map (·.1))
    rw [List.length_map] at hle
    by_cases h00 : len = 0
    · refine ⟨[], ⟨_, rfl, some a, cap, by rw [h00]; rfl, by simp, by simp, fun hp => by simp at hp⟩, by simp, by simp⟩
    have hspot : a.spot = none := by
      have h4 := hel 0 (by omega)
      obtain ⟨y, hy⟩ : ∃ y, elems[0]? = some y := ⟨_, List.getElem?_eq_getElem (by omega)⟩
      rw [hy, hc, Option.bind_eq_some_iff] at h4
      obtain ⟨cs, h5, h6⟩ := h4
      have := (cells_range h5 hz).1
      rw [Nat.zero_mul] at this
      simpa [Addr.add] using this
    obtain ⟨b, o, s⟩ := a
    simp at hspot
    subst hspot
    have key : ∀ m, m ≤ len → ∃ xs : List α, xs.length = m ∧ (∀ i x, xs[i]? = some x → ∃ cs, k.rd (fun _ => True) w cs x ∧ w.rangeAt b (o + i * k.sz) cs) ∧ ∀ x ∈ xs, wf x := by
      intro m
      induction m with
      | zero => exact fun _ => ⟨[], rfl, fun i x hx => by simp at hx, by simp⟩
      | succ m ih =>
        intro hm
        obtain ⟨xs, h1, h2, h3⟩ := ih (by omega)
        have h4 := hel m (by omega)
        obtain ⟨y, hy⟩ : ∃ y, elems[m]? = some y := ⟨_, List.getElem?_eq_getElem (by omega)⟩
        rw [hy, hc, Option.bind_eq_some_iff] at h4
        obtain ⟨cs, h5, h6⟩ := h4
        rw [Addr.add_mid] at h5
        have h7 := cells_range h5 hz
        obtain ⟨x, h8, h9⟩ := h.out enc w spare held n cs y.1 y.2 h6 (Nat.le_trans (bulk_part (List.mem_map.2 ⟨y, List.mem_of_getElem? hy, rfl⟩)) hb2)
        refine ⟨xs ++ [x], by simp [h1], fun i z hzz => ?_, fun z hzz => ?_⟩
        · rcases Nat.lt_or_ge i xs.length with hi | hi
          · rw [List.getElem?_append_left hi] at hzz
            exact h2 i z hzz
          · rw [List.getElem?_append_right hi] at hzz
            have hi0 : i - xs.length = 0 := by
              by_cases e0 : i - xs.length = 0
              · exact e0
              · have := (List.getElem?_eq_some_iff.1 hzz).1; simp at this; omega
            rw [hi0] at hzz
            simp at hzz
            subst hzz
            have e1 : i = m := by omega
            subst e1
            exact ⟨cs, h8, h7.2⟩
        · rcases List.mem_append.1 hzz with h | h
          · exact h3 z h
          · simp at h; subst h; exact h9
    obtain ⟨xs, h1, h2, h3⟩ := key len (Nat.le_refl _)
    exact ⟨xs, ⟨_, rfl, _, cap, by rw [h1], by omega, by have := bLim_eq; unfold lim; omega, fun hp => ⟨b, o, rfl, trivial, h2⟩⟩, by omega, h3⟩
/-- An argument. -/
theorem Opens.arg {α : Type} {P : Program} {t : TypeId} {k : Kd α} {wf : α → Prop} (h : Opens P t k wf) {H : Type} {enc : TypeId × Value → H} {w : World} {spare : Nat → Bool} {held : Bool} {v : Value} {d : DataW H} {ps : List MemPlace}
    (ht : DataW.Trod enc P w 0 spare held t v d ps) (hb : Rows.uptoBulk d ≤ bLim) : ∃ x, k.rd (fun _ => True) w v.cells.toList x ∧ wf x := by
  obtain ⟨fuel, hf⟩ := ht
  exact h.out enc w spare held fuel _ d ps hf hb
end Go.Proofs.Ytailhdcackkegaa.Wd
namespace Go.Proofs.Ytailhdcackkegaa.Wd
abbrev inI (n : Int) : Prop := -9223372036854775808 ≤ n ∧ n ≤ 9223372036854775807
def wfInts (l : List Int) : Prop := l.length ≤ bLim ∧ ∀ x ∈ l, inI x
def wfDot (d : Dot) : Prop := inI d.o ∧ inI d.s
def wfEv (e : Ev) : Prop := wfDot e.dot ∧ wfInts e.deps ∧ e.cart.size ≤ bLim ∧ inI e.epoch ∧ e.sku.size ≤ bLim ∧ inI e.qty ∧ True
def wfLn (l : Ln) : Prop := l.sku.size ≤ bLim ∧ inI l.qty
def wfSeal (s : Seal) : Prop := s.token.size ≤ bLim ∧ s.cart.size ≤ bLim ∧ inI s.epoch ∧ wfInts s.cut
def wfBal (b : Bal) : Prop := inI b.r ∧ inI b.n
def wfEnt (e : Ent) : Prop := True ∧ wfSeal e.sl
def wfVot (v : Vot) : Prop := inI v.slot ∧ wfBal v.bal ∧ wfEnt v.ent
end Go.Proofs.Ytailhdcackkegaa.Wd
