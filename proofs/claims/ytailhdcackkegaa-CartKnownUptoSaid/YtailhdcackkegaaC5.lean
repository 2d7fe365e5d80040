/- cart.Lines. -/
import Derived.Test.YtailhdcackkegaaC4
import Derived.Test.YtailhdcackkegaaKy
import Derived.Test.YtailhdcackkegaaIter
import Derived.Test.YtailhdcackkegaaProg
namespace Go.Proofs.Ytailhdcackkegaa.Wd
open Go.RowKit
set_option linter.unusedVariables false
set_option linter.unusedSimpArgs false

def sumStep (cart : ByteArray) (L : List (ByteArray × Int)) (e : Ev) : List (ByteArray × Int) := if e.cart = cart then putA e.sku ((getA e.sku L).getD 0 + e.qty) L else L
def sumsL (cart : ByteArray) (l : List Ev) : List (ByteArray × Int) := l.foldl (sumStep cart) []
theorem sumsL_snoc (cart : ByteArray) {l : List Ev} {i : Nat} {e : Ev} (h : l[i]? = some e) : sumsL cart (l.take (i + 1)) = sumStep cart (sumsL cart (l.take i)) e := by
  rw [take_snoc h, sumsL, List.foldl_append]; rfl
def lineK (L : List (ByteArray × Int)) (s : ByteArray) : Option Ln := if 0 < (getA s L).getD 0 then some ⟨s, (getA s L).getD 0⟩ else none
def linesL (l : List Ev) (cart : ByteArray) : List Ln := (keysL (sumsL cart (onceL (standL l)))).filterMap (lineK (sumsL cart (onceL (standL l))))
theorem whereL_mem {σ : Type} (sel : σ → Ev → Bool × σ) : ∀ (l : List Ev) (s : σ) (e : Ev), e ∈ (whereL sel s l).1 → e ∈ l
  | [], s, e, h => by simp [whereL] at h
  | a :: l, s, e, h => by
    simp only [whereL] at h
    cases hs : (sel s a).1
    · rw [hs] at h; exact List.mem_cons_of_mem _ (whereL_mem sel l _ e h)
    · rw [hs] at h
      rcases List.mem_cons.1 h with rfl | h
      · exact List.mem_cons_self
      · exact List.mem_cons_of_mem _ (whereL_mem sel l _ e h)
theorem onceStand_mem {l : List Ev} {e : Ev} (h : e ∈ onceL (standL l)) : e ∈ l := whereL_mem _ _ _ _ (whereL_mem _ _ _ _ h)
theorem onceStand_len (l : List Ev) : (onceL (standL l)).length ≤ l.length := Nat.le_trans (whereL_len _ _ _) (whereL_len _ _ _)
theorem putA_len {α β : Type} [DecidableEq α] (k : α) (x : β) : ∀ L : List (α × β), (putA k x L).length ≤ L.length + 1
  | [] => by simp [putA]
  | p :: L => by have := putA_len k x L; simp only [putA]; split <;> simp <;> omega
theorem putA_mem {α β : Type} [DecidableEq α] (k : α) (x : β) : ∀ (L : List (α × β)) (p : α × β), p ∈ putA k x L → p.1 = k ∨ ∃ q ∈ L, q.1 = p.1
  | [], p, h => by simp [putA] at h; simp [h]
  | q :: L, p, h => by
    simp only [putA] at h
    split at h
    · rename_i hk
      rcases List.mem_cons.1 h with rfl | h
      · exact .inl hk.symm
      · exact .inr ⟨p, List.mem_cons_of_mem _ h, rfl⟩
    · rcases List.mem_cons.1 h with rfl | h
      · exact .inr ⟨p, List.mem_cons_self, rfl⟩
      · rcases putA_mem k x L p h with h | ⟨q', h1, h2⟩
        · exact .inl h
        · exact .inr ⟨q', List.mem_cons_of_mem _ h1, h2⟩
theorem filterMap_snoc {L : List (ByteArray × Int)} {ks : List ByteArray} {i : Nat} {s : ByteArray} (h : ks[i]? = some s) : (ks.take (i + 1)).filterMap (lineK L) = (ks.take i).filterMap (lineK L) ++ (lineK L s).toList := by
  rw [take_snoc h, List.filterMap_append]
  cases hl : lineK L s <;> simp [hl]
/-- What Lines asks of events. -/
def okEv (e : Ev) : Prop := 0 ≤ e.qty ∧ e.qty ≤ 1000 ∧ e.sku.size ≤ maxLen

theorem sortedKeys_c {w : World} {b : Nat} {L : List (ByteArray × Int)} (M : Mp encS kInt (Rg 0 0 0) w b L) (hs : ∀ p ∈ L, p.1.size ≤ maxLen) (hl : L.length ≤ lim) :
    CallsV Try.prog 56 #[.func (.func 91) #[] #[.pointer (some ⟨w.heap.size, 0, none⟩)]] (w.alloc (.cells #[.map (some b)] 89)) (fun r w' => Sl Kd.str (Rg 0 w.heap.size w'.heap.size) w' r (keysL L) ∧ Bel (w.alloc (.cells #[.map (some b)] 89)) w') := by
  have hlim := lim_le hl
  obtain ⟨D, h1, h2, h3⟩ := M.ownsMap Try.underlying9 hs (lim_max hl)
  refine Calls.mono (callsIn_wide.1 (Try.slices_Sorted_keys_56_57 b _ D _ w h1 (by rw [h2]; exact lim_max hl) (by rw [h2]; omega))) ?_
  rintro _ w' ⟨v, ss, rfl, hp, hown, _, hb⟩
  have hlen : ss.length = L.length := by rw [hp.length_eq, h3.length_eq, List.length_map]
  have hms : (ss.mergeSort fun x y => decide (x ≤ y)) = (L.map fun p => p.1.data.toList).mergeSort fun x y => decide (x ≤ y) := mergeSort_of_perm (hp.trans h3)
  have hsz : (ss.mergeSort fun x y => decide (x ≤ y)).length = ss.length := List.length_mergeSort ss
  rw [← hsz] at hown
  have := strs_sl hown (by rw [hsz, hlen]; exact hl)
  rw [hms] at this
  refine ⟨v, rfl, this.rg (by decide) (fun b hb hh => by simp at hh; omega), hb⟩

theorem lines_c {ok : Nat → Prop} {w : World} {v : Value} {l : List Ev} (hS : Sl kEv ok w v l) (cart : ByteArray) (hev : ∀ e ∈ l, okEv e) :
    CallsV Try.prog 23 #[v, (.string cart)] w (fun r w' => Sl kLn (Rg 0 w.heap.size w'.heap.size) w' r (linesL l cart) ∧ Bel w w') := by
  have hb := Bel.refl w
  replace hS : Sl kEv (Rg w.heap.size 0 0) w v l := hS.weak (by decide) (fun b _ hl => .inl hl)
  have hSlim := lim_le hS.lim
  have hel := onceStand_len l
  refine callsV_of Try.func23 (m := 52) Try.ntmps23 rfl rfl (l := [v, .string cart, undef, undef, undef, undef, undef, undef, undef, undef, undef, undef, undef, undef, undef, undef, undef, undef, undef, undef, undef, undef, undef, undef, undef, undef, undef, undef, undef, undef, undef, undef, undef, undef, undef, undef, undef, undef, undef, undef, undef, undef, undef, undef, undef, undef, undef, undef, undef, undef, undef, undef, undef, undef]) rfl ?_
  refine c_seq ?_
  refine c_region ?_
  refine s_val (v := (.slice none 0 0)) rfl (r_assign rfl) (rfl : _ = [_, _, _, _, _, _, _, _, _, _, _, _, _, _, _, _, _, _, _, _, _, _, _, _, _, _, _, _, _, _, _, _, _, _, _, _, _, _, _, _, _, _, _, _, _, _, _, _, _, _, _, _, _, _]) ?_
  refine s_nil rfl ?_
  refine x_seq ?_
  refine c_seq ?_
  refine c_region ?_
  refine s_makeMap 89 (fun s : ByteArray => Value.string s) kInt (Rg 0 0 0) rfl ?_
  intro m1 w2 he3 hM4 hc5 hz6
  refine norm (rfl : _ = [_, _, _, _, _, _, _, _, _, _, _, _, _, _, _, _, _, _, _, _, _, _, _, _, _, _, _, _, _, _, _, _, _, _, _, _, _, _, _, _, _, _, _, _, _, _, _, _, _, _, _, _, _, _]) ?_
  have hs7 := hc5.size
  replace hb := hb.chg hc5 (by omega)
  refine s_val (v := (.map (some m1))) rfl (r_assign rfl) (rfl : _ = [_, _, _, _, _, _, _, _, _, _, _, _, _, _, _, _, _, _, _, _, _, _, _, _, _, _, _, _, _, _, _, _, _, _, _, _, _, _, _, _, _, _, _, _, _, _, _, _, _, _, _, _, _, _]) ?_
  refine s_nil rfl ?_
  refine x_seq ?_
  refine c_seq ?_
  refine c_seq ?_
  refine c_region ?_
  refine s_val (v := v) rfl (r_move rfl) (rfl : _ = [_, _, _, _, _, _, _, _, _, _, _, _, _, _, _, _, _, _, _, _, _, _, _, _, _, _, _, _, _, _, _, _, _, _, _, _, _, _, _, _, _, _, _, _, _, _, _, _, _, _, _, _, _, _]) ?_
  refine s_call 53 _ _ (by kernel_rfl) rfl rfl (stand_c (hS.at_ hb)) ?_
  rintro v8 w9 ⟨hS10, hb11⟩
  refine norm (rfl : _ = [_, _, _, _, _, _, _, _, _, _, _, _, _, _, _, _, _, _, _, _, _, _, _, _, _, _, _, _, _, _, _, _, _, _, _, _, _, _, _, _, _, _, _, _, _, _, _, _, _, _, _, _, _, _]) ?_
  have hc12 := Chg.of_bel hb11
  have hs13 := hc12.size
  replace hb := hb.chg hc12 (by omega)
  replace hM4 := hM4.chgR hc12 (by omega)
  refine s_call 55 _ _ (by kernel_rfl) rfl rfl (once_c hS10) ?_
  rintro v14 w15 ⟨hS16, hb17⟩
  refine norm (rfl : _ = [_, _, _, _, _, _, _, _, _, _, _, _, _, _, _, _, _, _, _, _, _, _, _, _, _, _, _, _, _, _, _, _, _, _, _, _, _, _, _, _, _, _, _, _, _, _, _, _, _, _, _, _, _, _]) ?_
  have hc18 := Chg.of_bel hb17
  have hs19 := hc18.size
  replace hb := hb.chg hc18 (by omega)
  replace hM4 := hM4.chgR hc18 (by omega)
  replace hS10 := hS10.chg hc18 (by omega)
  refine s_val (v := (.int .i64 ((onceL (standL l)).length : Int))) rfl (hS16.len Try.underlying34 rfl _) (rfl : _ = [_, _, _, _, _, _, _, _, _, _, _, _, _, _, _, _, _, _, _, _, _, _, _, _, _, _, _, _, _, _, _, _, _, _, _, _, _, _, _, _, _, _, _, _, _, _, _, _, _, _, _, _, _, _]) ?_
  refine s_val (v := (.int .i64 0)) rfl (r_move rfl) (rfl : _ = [_, _, _, _, _, _, _, _, _, _, _, _, _, _, _, _, _, _, _, _, _, _, _, _, _, _, _, _, _, _, _, _, _, _, _, _, _, _, _, _, _, _, _, _, _, _, _, _, _, _, _, _, _, _]) ?_
  refine s_nil rfl ?_
  refine x_seq ?_
  refine c_block ?_
  refine c_loop (fun kk_ fr_ wr20 => ∃ (i : Nat) (L : List (ByteArray × Int)) (jk21 : Nat → Value), kk_ = (onceL (standL l)).length - i ∧ fr_ = [jk21 0, .string cart, jk21 1, jk21 2, .slice none 0 0, .map (some m1), jk21 3, jk21 4, undef, jk21 5, undef, jk21 6, jk21 7, jk21 8, v14, .int .i64 ((onceL (standL l)).length : Int), .int .i64 (i : Int), jk21 9, jk21 10, jk21 11, jk21 12, jk21 13, jk21 14, jk21 15, jk21 16, jk21 17, jk21 18, jk21 19, jk21 20, jk21 21, jk21 22, jk21 23, undef, undef, undef, undef, undef, undef, undef, undef, undef, undef, undef, undef, undef, undef, undef, undef, undef, undef, undef, undef, undef, undef] ∧ (i ≤ (onceL (standL l)).length) ∧ (L = sumsL cart ((onceL (standL l)).take i)) ∧ (∀ k, 0 ≤ (getA k L).getD 0 ∧ (getA k L).getD 0 ≤ 1000 * (i : Int)) ∧ (∀ p ∈ L, p.1.size ≤ maxLen) ∧ (L.length ≤ i) ∧ Bel w wr20 ∧ w15.heap.size ≤ wr20.heap.size ∧ Mp (fun s : ByteArray => Value.string s) kInt (Rg 0 0 0) wr20 m1 L ∧ Sl kEv (Rg 0 w9.heap.size w15.heap.size) wr20 v14 (onceL (standL l))) _ ⟨0, [], (fun n_ => ([v, undef, undef, undef, undef, undef, .map (some m1), v, v8, undef, undef, undef, undef, undef, undef, undef, undef, undef, undef, undef, undef, undef, undef, undef] : List Value).getD n_ undef), rfl, rfl, (Nat.zero_le _), rfl, (by intro k; simp [getA]), (by intro p hp; cases hp), (Nat.le_refl _), hb, (Nat.le_refl _), hM4, hS16⟩ ?_
  rintro _ _ wr20 ⟨i, L, jk21, rfl, rfl, hi, hL, hsum, hsz, hLl, hb22, hws23, hM4, hS16⟩
  have hs24 := hb22.size
  have hl25 := hM4.lt
  have hl26 := lim_le hS16.lim
  refine c_seq ?_
  refine c_region ?_
  refine s_bool (p := ((i : Int) < ((onceL (standL l)).length : Int) : Prop)) rfl (r_lss rfl rfl) decide_eq_true_iff ?_
  intro b27 hb27
  refine norm (rfl : _ = [_, _, _, _, _, _, _, _, _, _, _, _, _, _, _, _, _, _, _, _, _, _, _, _, _, _, _, _, _, _, _, _, _, _, _, _, _, _, _, _, _, _, _, _, _, _, _, _, _, _, _, _, _, _]) ?_
  refine s_nil rfl ?_
  refine x_seq ?_
  refine c_seq ?_
  cases b27 with
  | true =>
    replace hb27 := bt hb27
    refine c_cond rfl (fun _ => ?_) (fun hh => by cases hh)
    refine c_skip ?_
    refine x_seq ?_
    refine c_seq ?_
    refine c_block ?_
    refine c_seq ?_
    refine c_region ?_
    obtain ⟨e28, a29, o30, c31, he32, hc33, hr34, hk35, hi36⟩ := hS16.idx (j := (i : Int)) (by first | omega | decide) (by first | omega | simp)
    rw [Int.toNat_natCast] at he32
    obtain ⟨d37, rfl, hd38⟩ := kEv_cells.1 hc33
    refine s_val rfl (hi36 _ _ _ _ _ _ _ (by kernel_rfl) rfl rfl) (rfl : _ = [_, _, _, _, _, _, _, _, _, _, _, _, _, _, _, _, _, _, _, _, _, _, _, _, _, _, _, _, _, _, _, _, _, _, _, _, _, _, _, _, _, _, _, _, _, _, _, _, _, _, _, _, _, _]) ?_
    refine s_val (v := (.agg #[.int .i64 e28.dot.o, .int .i64 e28.dot.s, d37, .string e28.cart, .int .i64 e28.epoch, .string e28.sku, .int .i64 e28.qty, .bool e28.clears])) rfl (r_load rfl (Ld.row Try.underlying39 rfl (by kernel_rfl) hr34)) (rfl : _ = [_, _, _, _, _, _, _, _, _, _, _, _, _, _, _, _, _, _, _, _, _, _, _, _, _, _, _, _, _, _, _, _, _, _, _, _, _, _, _, _, _, _, _, _, _, _, _, _, _, _, _, _, _, _]) ?_
    refine s_alloc (z := (.agg #[.int .i64 0, .int .i64 0, .slice none 0 0, .string ⟨#[]⟩, .int .i64 0, .string ⟨#[]⟩, .int .i64 0, .bool false])) 39 (by kernel_rfl) rfl ?_
    intro a39 w40 he41 hB42 hc43 hz44
    refine norm (rfl : _ = [_, _, _, _, _, _, _, _, _, _, _, _, _, _, _, _, _, _, _, _, _, _, _, _, _, _, _, _, _, _, _, _, _, _, _, _, _, _, _, _, _, _, _, _, _, _, _, _, _, _, _, _, _, _]) ?_
    have hs45 := hc43.size
    replace hb22 := hb22.chg hc43 (by omega)
    replace hM4 := hM4.chgR hc43 (by omega)
    replace hS16 := hS16.chg hc43 (by omega)
    replace hd38 := hd38.chg hc43 (by omega)
    refine s_store (b := a39) (o := 0) (vs := [.int .i64 e28.dot.o, .int .i64 e28.dot.s, d37, .string e28.cart, .int .i64 e28.epoch, .string e28.sku, .int .i64 e28.qty, .bool e28.clears]) (cs := [.int .i64 0, .int .i64 0, .slice none 0 0, .string ⟨#[]⟩, .int .i64 0, .string ⟨#[]⟩, .int .i64 0, .bool false]) (cs' := [.int .i64 e28.dot.o, .int .i64 e28.dot.s, d37, .string e28.cart, .int .i64 e28.epoch, .string e28.sku, .int .i64 e28.qty, .bool e28.clears]) 39 _ _ rfl (v := (.agg #[.int .i64 e28.dot.o, .int .i64 e28.dot.s, d37, .string e28.cart, .int .i64 e28.epoch, .string e28.sku, .int .i64 e28.qty, .bool e28.clears])) rfl rfl rfl hB42 (by kernel_rfl) ⟨rfl, rfl, hd38.one, rfl, rfl, rfl, rfl, rfl, trivial⟩ (by simp) rfl ?_
    intro w46 hB47 hc48 hz49
    have hs50 := hc48.size
    replace hb22 := hb22.chg hc48 (by omega)
    replace hM4 := hM4.chgR hc48 (by omega)
    replace hS16 := hS16.chg hc48 (by omega)
    replace hd38 := hd38.chg hc48 (by omega)
    refine s_nil rfl ?_
    refine x_seq ?_
    refine c_seq ?_
    refine c_region ?_
    refine s_val (v := (.pointer (some ⟨a39, 3, none⟩))) rfl (r_field (k := 3) (o := 0) (by kernel_rfl) rfl) (rfl : _ = [_, _, _, _, _, _, _, _, _, _, _, _, _, _, _, _, _, _, _, _, _, _, _, _, _, _, _, _, _, _, _, _, _, _, _, _, _, _, _, _, _, _, _, _, _, _, _, _, _, _, _, _, _, _]) ?_
    refine s_val (v := (.string e28.cart)) rfl (r_load rfl (Ld.one Try.underlying9 rfl (hB47.cell (i := 3) rfl))) (rfl : _ = [_, _, _, _, _, _, _, _, _, _, _, _, _, _, _, _, _, _, _, _, _, _, _, _, _, _, _, _, _, _, _, _, _, _, _, _, _, _, _, _, _, _, _, _, _, _, _, _, _, _, _, _, _, _]) ?_
    refine s_val (v := (.string cart)) rfl (r_move rfl) (rfl : _ = [_, _, _, _, _, _, _, _, _, _, _, _, _, _, _, _, _, _, _, _, _, _, _, _, _, _, _, _, _, _, _, _, _, _, _, _, _, _, _, _, _, _, _, _, _, _, _, _, _, _, _, _, _, _]) ?_
    refine s_bool (p := (e28.cart = cart : Prop)) rfl (r_eqs rfl rfl) eqs_iff ?_
    intro b51 hb51
    refine norm (rfl : _ = [_, _, _, _, _, _, _, _, _, _, _, _, _, _, _, _, _, _, _, _, _, _, _, _, _, _, _, _, _, _, _, _, _, _, _, _, _, _, _, _, _, _, _, _, _, _, _, _, _, _, _, _, _, _]) ?_
    refine s_nil rfl ?_
    refine x_seq ?_
    cases b51 with
    | true =>
      replace hb51 := bt hb51
      refine c_cond rfl (fun _ => ?_) (fun hh => by cases hh)
      refine c_region ?_
      refine s_val (v := (.map (some m1))) rfl (r_move rfl) (rfl : _ = [_, _, _, _, _, _, _, _, _, _, _, _, _, _, _, _, _, _, _, _, _, _, _, _, _, _, _, _, _, _, _, _, _, _, _, _, _, _, _, _, _, _, _, _, _, _, _, _, _, _, _, _, _, _]) ?_
      refine s_val (v := (.pointer (some ⟨a39, 5, none⟩))) rfl (r_field (k := 5) (o := 0) (by kernel_rfl) rfl) (rfl : _ = [_, _, _, _, _, _, _, _, _, _, _, _, _, _, _, _, _, _, _, _, _, _, _, _, _, _, _, _, _, _, _, _, _, _, _, _, _, _, _, _, _, _, _, _, _, _, _, _, _, _, _, _, _, _]) ?_
      refine s_val (v := (.string e28.sku)) rfl (r_load rfl (Ld.one Try.underlying9 rfl (hB47.cell (i := 5) rfl))) (rfl : _ = [_, _, _, _, _, _, _, _, _, _, _, _, _, _, _, _, _, _, _, _, _, _, _, _, _, _, _, _, _, _, _, _, _, _, _, _, _, _, _, _, _, _, _, _, _, _, _, _, _, _, _, _, _, _]) ?_
      have hqe := hev e28 (onceStand_mem (List.mem_of_getElem? he32))
      have hse := hsum e28.sku
      unfold okEv at hqe
      obtain ⟨v52, hv53, hk54⟩ := hM4.look (keyOk_str Try.underlying9) Try.underlying89 (z := .int .i64 0) (zb := 0) (by kernel_rfl) rfl e28.sku
      obtain rfl : v52 = (.int .i64 ((getA e28.sku L).getD 0)) := (List.cons.inj (show [v52] = [(.int .i64 ((getA e28.sku L).getD 0))] from hv53)).1
      refine s_val rfl (hk54 _ _ _ rfl rfl) (rfl : _ = [_, _, _, _, _, _, _, _, _, _, _, _, _, _, _, _, _, _, _, _, _, _, _, _, _, _, _, _, _, _, _, _, _, _, _, _, _, _, _, _, _, _, _, _, _, _, _, _, _, _, _, _, _, _]) ?_
      refine s_val (v := (.pointer (some ⟨a39, 6, none⟩))) rfl (r_field (k := 6) (o := 0) (by kernel_rfl) rfl) (rfl : _ = [_, _, _, _, _, _, _, _, _, _, _, _, _, _, _, _, _, _, _, _, _, _, _, _, _, _, _, _, _, _, _, _, _, _, _, _, _, _, _, _, _, _, _, _, _, _, _, _, _, _, _, _, _, _]) ?_
      refine s_val (v := (.int .i64 e28.qty)) rfl (r_load rfl (Ld.one Try.underlying3 rfl (hB47.cell (i := 6) rfl))) (rfl : _ = [_, _, _, _, _, _, _, _, _, _, _, _, _, _, _, _, _, _, _, _, _, _, _, _, _, _, _, _, _, _, _, _, _, _, _, _, _, _, _, _, _, _, _, _, _, _, _, _, _, _, _, _, _, _]) ?_
      refine s_val (v := (.int .i64 (((getA e28.sku L).getD 0) + e28.qty))) rfl (r_add (c := ((getA e28.sku L).getD 0) + e28.qty) rfl rfl (i64_in (by omega) (by omega))) (rfl : _ = [_, _, _, _, _, _, _, _, _, _, _, _, _, _, _, _, _, _, _, _, _, _, _, _, _, _, _, _, _, _, _, _, _, _, _, _, _, _, _, _, _, _, _, _, _, _, _, _, _, _, _, _, _, _]) ?_
      refine s_mapUpdate 89 _ _ _ rfl hM4 (keyOk_str Try.underlying9) Try.underlying89 (k := e28.sku) (xv := ((getA e28.sku L).getD 0) + e28.qty) rfl rfl rfl rfl (by omega) ?_
      intro w55 hM56 hc57 hz58
      have hs59 := hc57.size
      replace hb22 := hb22.chg hc57 (by omega)
      replace hS16 := hS16.chg hc57 (by omega)
      replace hd38 := hd38.chg hc57 (by omega)
      replace hB47 := hB47.chg hc57 (by omega)
      refine s_nil rfl ?_
      refine x_block ?_
      refine x_seq ?_
      refine c_region ?_
      refine s_val (v := (.int .i64 ((i : Int) + 1))) rfl (r_add (c := (i : Int) + 1) rfl rfl (i64_in (by omega) (by omega))) (rfl : _ = [_, _, _, _, _, _, _, _, _, _, _, _, _, _, _, _, _, _, _, _, _, _, _, _, _, _, _, _, _, _, _, _, _, _, _, _, _, _, _, _, _, _, _, _, _, _, _, _, _, _, _, _, _, _]) ?_
      refine s_val (v := (.int .i64 ((i : Int) + 1))) rfl (r_move rfl) (rfl : _ = [_, _, _, _, _, _, _, _, _, _, _, _, _, _, _, _, _, _, _, _, _, _, _, _, _, _, _, _, _, _, _, _, _, _, _, _, _, _, _, _, _, _, _, _, _, _, _, _, _, _, _, _, _, _]) ?_
      refine s_nil rfl ?_
      refine x_then ?_
      have hst := sumsL_snoc cart he32
      rw [← hL] at hst
      unfold sumStep at hst
      rw [if_pos (by assumption)] at hst
      refine ⟨_, _, ?_, rfl, (i + 1), (putA e28.sku (((getA e28.sku L).getD 0) + e28.qty) L), (fun n_ => ([jk21 0, jk21 1, jk21 2, jk21 3, .pointer (some ⟨a39, 0, none⟩), jk21 5, jk21 6, jk21 7, jk21 8, .bool true, .pointer (some ⟨a29, o30, none⟩), .agg #[.int .i64 e28.dot.o, .int .i64 e28.dot.s, d37, .string e28.cart, .int .i64 e28.epoch, .string e28.sku, .int .i64 e28.qty, .bool e28.clears], .pointer (some ⟨a39, 3, none⟩), .string e28.cart, .string cart, .bool true, .map (some m1), .pointer (some ⟨a39, 5, none⟩), .string e28.sku, .int .i64 ((getA e28.sku L).getD 0), .pointer (some ⟨a39, 6, none⟩), .int .i64 e28.qty, .int .i64 (((getA e28.sku L).getD 0) + e28.qty), .int .i64 ((i : Int) + 1)] : List Value).getD n_ undef), rfl, rfl, (by omega), hst.symm, (by intro k; rw [getA_put]; by_cases hk : k = e28.sku; (rw [if_pos hk]; simp only [Option.getD_some]; omega); (rw [if_neg hk]; have := hsum k; omega)), (by intro p hp; rcases putA_mem _ _ _ _ hp with h | ⟨q, h1, h2⟩; (rw [h]; exact hqe.2.2); (rw [← h2]; exact hsz q h1)), (by have := putA_len e28.sku ((getA e28.sku L).getD 0 + e28.qty) L; omega), hb22, (by omega), hM56, hS16⟩
      omega
    | false =>
      replace hb51 := bf hb51
      refine c_cond rfl (fun hh => by cases hh) (fun _ => ?_)
      refine c_skip ?_
      refine x_block ?_
      refine x_seq ?_
      refine c_region ?_
      refine s_val (v := (.int .i64 ((i : Int) + 1))) rfl (r_add (c := (i : Int) + 1) rfl rfl (i64_in (by omega) (by omega))) (rfl : _ = [_, _, _, _, _, _, _, _, _, _, _, _, _, _, _, _, _, _, _, _, _, _, _, _, _, _, _, _, _, _, _, _, _, _, _, _, _, _, _, _, _, _, _, _, _, _, _, _, _, _, _, _, _, _]) ?_
      refine s_val (v := (.int .i64 ((i : Int) + 1))) rfl (r_move rfl) (rfl : _ = [_, _, _, _, _, _, _, _, _, _, _, _, _, _, _, _, _, _, _, _, _, _, _, _, _, _, _, _, _, _, _, _, _, _, _, _, _, _, _, _, _, _, _, _, _, _, _, _, _, _, _, _, _, _]) ?_
      refine s_nil rfl ?_
      refine x_then ?_
      have hst := sumsL_snoc cart he32
      rw [← hL] at hst
      unfold sumStep at hst
      rw [if_neg (by assumption)] at hst
      refine ⟨_, _, ?_, rfl, (i + 1), L, (fun n_ => ([jk21 0, jk21 1, jk21 2, jk21 3, .pointer (some ⟨a39, 0, none⟩), jk21 5, jk21 6, jk21 7, jk21 8, .bool true, .pointer (some ⟨a29, o30, none⟩), .agg #[.int .i64 e28.dot.o, .int .i64 e28.dot.s, d37, .string e28.cart, .int .i64 e28.epoch, .string e28.sku, .int .i64 e28.qty, .bool e28.clears], .pointer (some ⟨a39, 3, none⟩), .string e28.cart, .string cart, .bool false, jk21 16, jk21 17, jk21 18, jk21 19, jk21 20, jk21 21, jk21 22, .int .i64 ((i : Int) + 1)] : List Value).getD n_ undef), rfl, rfl, (by omega), hst.symm, (by intro k; have := hsum k; omega), hsz, (by omega), hb22, (by omega), hM4, hS16⟩
      omega
  | false =>
    replace hb27 := bf hb27
    refine c_cond rfl (fun hh => by cases hh) (fun _ => ?_)
    refine c_exit ?_
    refine x_then_exit ?_
    refine x_then_exit ?_
    refine x_block_same ?_
    refine x_seq ?_
    refine c_seq ?_
    refine c_region ?_
    refine s_val (v := (.slice none 0 0)) rfl (r_assign rfl) (rfl : _ = [_, _, _, _, _, _, _, _, _, _, _, _, _, _, _, _, _, _, _, _, _, _, _, _, _, _, _, _, _, _, _, _, _, _, _, _, _, _, _, _, _, _, _, _, _, _, _, _, _, _, _, _, _, _]) ?_
    refine s_nil rfl ?_
    refine x_seq ?_
    refine c_seq ?_
    refine c_seq ?_
    refine c_region ?_
    refine s_val (v := (.map (some m1))) rfl (r_move rfl) (rfl : _ = [_, _, _, _, _, _, _, _, _, _, _, _, _, _, _, _, _, _, _, _, _, _, _, _, _, _, _, _, _, _, _, _, _, _, _, _, _, _, _, _, _, _, _, _, _, _, _, _, _, _, _, _, _, _]) ?_
    have hM60 := hM4
    refine s_call 57 _ _ (by kernel_rfl) rfl rfl (R := fun r w' => r = .func (.func 91) #[] #[.pointer (some ⟨wr20.heap.size, 0, none⟩)] ∧ w' = wr20.alloc (.cells #[.map (some m1)] 89)) (Calls.mono (callsIn_wide.1 (Try.maps_Keys_57 (some m1) wr20)) (fun e w' hh => ⟨_, hh.1, ⟨rfl, hh.2⟩⟩)) ?_
    rintro _ w61 ⟨rfl, hw62⟩
    refine norm (rfl : _ = [_, _, _, _, _, _, _, _, _, _, _, _, _, _, _, _, _, _, _, _, _, _, _, _, _, _, _, _, _, _, _, _, _, _, _, _, _, _, _, _, _, _, _, _, _, _, _, _, _, _, _, _, _, _]) ?_
    have hc63 : Chg 0 0 wr20 w61 := by rw [hw62]; exact Chg.alloc _ _
    have hs64 := hc63.size
    replace hb22 := hb22.chg hc63 (by omega)
    replace hM4 := hM4.chgR hc63 (by omega)
    replace hS16 := hS16.chg hc63 (by omega)
    refine s_call 56 _ _ (by kernel_rfl) rfl rfl (R := fun r w' => Sl Kd.str (Rg 0 wr20.heap.size w'.heap.size) w' r (keysL L) ∧ Bel w61 w') (by rw [hw62]; exact sortedKeys_c hM60 hsz (by unfold lim; omega)) ?_
    rintro v65 w66 ⟨hS67, hb68⟩
    refine norm (rfl : _ = [_, _, _, _, _, _, _, _, _, _, _, _, _, _, _, _, _, _, _, _, _, _, _, _, _, _, _, _, _, _, _, _, _, _, _, _, _, _, _, _, _, _, _, _, _, _, _, _, _, _, _, _, _, _]) ?_
    have hc69 := Chg.of_bel hb68
    have hs70 := hc69.size
    replace hb22 := hb22.chg hc69 (by omega)
    replace hM4 := hM4.chgR hc69 (by omega)
    replace hS16 := hS16.chg hc69 (by omega)
    refine s_val (v := (.int .i64 ((keysL L).length : Int))) rfl (hS67.len Try.underlying90 rfl _) (rfl : _ = [_, _, _, _, _, _, _, _, _, _, _, _, _, _, _, _, _, _, _, _, _, _, _, _, _, _, _, _, _, _, _, _, _, _, _, _, _, _, _, _, _, _, _, _, _, _, _, _, _, _, _, _, _, _]) ?_
    refine s_val (v := (.int .i64 0)) rfl (r_move rfl) (rfl : _ = [_, _, _, _, _, _, _, _, _, _, _, _, _, _, _, _, _, _, _, _, _, _, _, _, _, _, _, _, _, _, _, _, _, _, _, _, _, _, _, _, _, _, _, _, _, _, _, _, _, _, _, _, _, _]) ?_
    refine s_nil rfl ?_
    refine x_seq ?_
    refine c_block ?_
    refine c_loop (fun kk_ fr_ wr71 => ∃ (j : Nat) (out : Value) (hh : Nat) (jk72 : Nat → Value), kk_ = (keysL L).length - j ∧ fr_ = [jk72 0, jk72 1, jk72 2, jk72 3, .slice none 0 0, .map (some m1), jk72 4, jk72 5, out, jk72 6, jk72 7, jk72 8, jk72 9, jk72 10, jk72 11, jk72 12, jk72 13, jk72 14, jk72 15, jk72 16, jk72 17, jk72 18, jk72 19, jk72 20, jk72 21, jk72 22, jk72 23, jk72 24, jk72 25, jk72 26, jk72 27, jk72 28, jk72 29, jk72 30, v65, .int .i64 ((keysL L).length : Int), .int .i64 (j : Int), jk72 31, jk72 32, jk72 33, jk72 34, jk72 35, jk72 36, jk72 37, jk72 38, jk72 39, jk72 40, jk72 41, jk72 42, jk72 43, jk72 44, jk72 45, jk72 46, undef] ∧ (j ≤ (keysL L).length) ∧ Bel w wr71 ∧ w66.heap.size ≤ wr71.heap.size ∧ OwnX kLn 86 0 w66.heap.size hh wr71 out ((keysL L).take j |>.filterMap (lineK L)) ∧ Mp (fun s : ByteArray => Value.string s) kInt (Rg 0 0 0) wr71 m1 L ∧ Sl Kd.str (Rg 0 wr20.heap.size w66.heap.size) wr71 v65 (keysL L)) _ ⟨0, (.slice none 0 0), w66.heap.size, (fun n_ => ([jk21 0, .string cart, jk21 1, jk21 2, jk21 3, jk21 4, jk21 5, undef, jk21 6, jk21 7, jk21 8, v14, .int .i64 ((onceL (standL l)).length : Int), .int .i64 (i : Int), .bool false, jk21 10, jk21 11, jk21 12, jk21 13, jk21 14, jk21 15, jk21 16, jk21 17, jk21 18, jk21 19, jk21 20, jk21 21, jk21 22, jk21 23, .map (some m1), .func (.func 91) #[] #[(.pointer (some ⟨wr20.heap.size, 0, none⟩))], undef, undef, undef, undef, undef, undef, undef, undef, undef, undef, undef, undef, undef, undef, undef, undef] : List Value).getD n_ undef), rfl, rfl, (Nat.zero_le _), hb22, (Nat.le_refl _), (OwnX.nil _ _ (by omega) (by omega)), hM4, hS67⟩ ?_
    rintro _ _ wr71 ⟨j, out, hh, jk72, rfl, rfl, hj, hb73, hws74, hO, hM4, hS67⟩
    have hs75 := hb73.size
    have hl76 := hO.hi
    have hl77 := lim_le hO.lim
    have hl78 := hM4.lt
    have hl79 := lim_le hS67.lim
    refine c_seq ?_
    refine c_region ?_
    refine s_bool (p := ((j : Int) < ((keysL L).length : Int) : Prop)) rfl (r_lss rfl rfl) decide_eq_true_iff ?_
    intro b80 hb80
    refine norm (rfl : _ = [_, _, _, _, _, _, _, _, _, _, _, _, _, _, _, _, _, _, _, _, _, _, _, _, _, _, _, _, _, _, _, _, _, _, _, _, _, _, _, _, _, _, _, _, _, _, _, _, _, _, _, _, _, _]) ?_
    refine s_nil rfl ?_
    refine x_seq ?_
    refine c_seq ?_
    cases b80 with
    | true =>
      replace hb80 := bt hb80
      refine c_cond rfl (fun _ => ?_) (fun hh => by cases hh)
      refine c_skip ?_
      refine x_seq ?_
      refine c_seq ?_
      refine c_block ?_
      refine c_seq ?_
      refine c_region ?_
      obtain ⟨e81, a82, o83, c84, he85, hc86, hr87, hk88, hi89⟩ := hS67.idx (j := (j : Int)) (by first | omega | decide) (by first | omega | simp)
      rw [Int.toNat_natCast] at he85
      obtain rfl : c84 = [.string e81] := hc86
      refine s_val rfl (hi89 _ _ _ _ _ _ _ (by kernel_rfl) rfl rfl) (rfl : _ = [_, _, _, _, _, _, _, _, _, _, _, _, _, _, _, _, _, _, _, _, _, _, _, _, _, _, _, _, _, _, _, _, _, _, _, _, _, _, _, _, _, _, _, _, _, _, _, _, _, _, _, _, _, _]) ?_
      refine s_val (v := (.string e81)) rfl (r_load rfl (Ld.one Try.underlying9 rfl (hr87 0 _ rfl))) (rfl : _ = [_, _, _, _, _, _, _, _, _, _, _, _, _, _, _, _, _, _, _, _, _, _, _, _, _, _, _, _, _, _, _, _, _, _, _, _, _, _, _, _, _, _, _, _, _, _, _, _, _, _, _, _, _, _]) ?_
      refine s_val (v := (.string e81)) rfl (r_assign rfl) (rfl : _ = [_, _, _, _, _, _, _, _, _, _, _, _, _, _, _, _, _, _, _, _, _, _, _, _, _, _, _, _, _, _, _, _, _, _, _, _, _, _, _, _, _, _, _, _, _, _, _, _, _, _, _, _, _, _]) ?_
      refine s_nil rfl ?_
      refine x_seq ?_
      refine c_seq ?_
      refine c_region ?_
      refine s_val (v := (.map (some m1))) rfl (r_move rfl) (rfl : _ = [_, _, _, _, _, _, _, _, _, _, _, _, _, _, _, _, _, _, _, _, _, _, _, _, _, _, _, _, _, _, _, _, _, _, _, _, _, _, _, _, _, _, _, _, _, _, _, _, _, _, _, _, _, _]) ?_
      refine s_val (v := (.string e81)) rfl (r_move rfl) (rfl : _ = [_, _, _, _, _, _, _, _, _, _, _, _, _, _, _, _, _, _, _, _, _, _, _, _, _, _, _, _, _, _, _, _, _, _, _, _, _, _, _, _, _, _, _, _, _, _, _, _, _, _, _, _, _, _]) ?_
      obtain ⟨v90, hv91, hk92⟩ := hM4.look (keyOk_str Try.underlying9) Try.underlying89 (z := .int .i64 0) (zb := 0) (by kernel_rfl) rfl e81
      obtain rfl : v90 = (.int .i64 ((getA e81 L).getD 0)) := (List.cons.inj (show [v90] = [(.int .i64 ((getA e81 L).getD 0))] from hv91)).1
      refine s_val rfl (hk92 _ _ _ rfl rfl) (rfl : _ = [_, _, _, _, _, _, _, _, _, _, _, _, _, _, _, _, _, _, _, _, _, _, _, _, _, _, _, _, _, _, _, _, _, _, _, _, _, _, _, _, _, _, _, _, _, _, _, _, _, _, _, _, _, _]) ?_
      refine s_bool (p := (0 < ((getA e81 L).getD 0) : Prop)) rfl (r_gtr rfl rfl) decide_eq_true_iff ?_
      intro b93 hb93
      refine norm (rfl : _ = [_, _, _, _, _, _, _, _, _, _, _, _, _, _, _, _, _, _, _, _, _, _, _, _, _, _, _, _, _, _, _, _, _, _, _, _, _, _, _, _, _, _, _, _, _, _, _, _, _, _, _, _, _, _]) ?_
      refine s_nil rfl ?_
      refine x_seq ?_
      cases b93 with
      | true =>
        replace hb93 := bt hb93
        refine c_cond rfl (fun _ => ?_) (fun hh => by cases hh)
        refine c_region ?_
        refine s_val (v := out) rfl (r_move rfl) (rfl : _ = [_, _, _, _, _, _, _, _, _, _, _, _, _, _, _, _, _, _, _, _, _, _, _, _, _, _, _, _, _, _, _, _, _, _, _, _, _, _, _, _, _, _, _, _, _, _, _, _, _, _, _, _, _, _]) ?_
        refine s_val (v := (.string e81)) rfl (r_move rfl) (rfl : _ = [_, _, _, _, _, _, _, _, _, _, _, _, _, _, _, _, _, _, _, _, _, _, _, _, _, _, _, _, _, _, _, _, _, _, _, _, _, _, _, _, _, _, _, _, _, _, _, _, _, _, _, _, _, _]) ?_
        refine s_val (v := (.map (some m1))) rfl (r_move rfl) (rfl : _ = [_, _, _, _, _, _, _, _, _, _, _, _, _, _, _, _, _, _, _, _, _, _, _, _, _, _, _, _, _, _, _, _, _, _, _, _, _, _, _, _, _, _, _, _, _, _, _, _, _, _, _, _, _, _]) ?_
        refine s_val (v := (.string e81)) rfl (r_move rfl) (rfl : _ = [_, _, _, _, _, _, _, _, _, _, _, _, _, _, _, _, _, _, _, _, _, _, _, _, _, _, _, _, _, _, _, _, _, _, _, _, _, _, _, _, _, _, _, _, _, _, _, _, _, _, _, _, _, _]) ?_
        obtain ⟨v94, hv95, hk96⟩ := hM4.look (keyOk_str Try.underlying9) Try.underlying89 (z := .int .i64 0) (zb := 0) (by kernel_rfl) rfl e81
        obtain rfl : v94 = (.int .i64 ((getA e81 L).getD 0)) := (List.cons.inj (show [v94] = [(.int .i64 ((getA e81 L).getD 0))] from hv95)).1
        refine s_val rfl (hk96 _ _ _ rfl rfl) (rfl : _ = [_, _, _, _, _, _, _, _, _, _, _, _, _, _, _, _, _, _, _, _, _, _, _, _, _, _, _, _, _, _, _, _, _, _, _, _, _, _, _, _, _, _, _, _, _, _, _, _, _, _, _, _, _, _]) ?_
        refine s_val rfl (r_build (v := (.agg #[.string e81, .int .i64 ((getA e81 L).getD 0)])) rfl (by kernel_rfl)) (rfl : _ = [_, _, _, _, _, _, _, _, _, _, _, _, _, _, _, _, _, _, _, _, _, _, _, _, _, _, _, _, _, _, _, _, _, _, _, _, _, _, _, _, _, _, _, _, _, _, _, _, _, _, _, _, _, _]) ?_
        refine s_buildSlice (cs := [.string e81, .int .i64 ((getA e81 L).getD 0)]) (e := 86) 42 1 _ rfl rfl (by kernel_rfl) ?_
        intro a97 w98 he99 hB100 hc101 hz102
        refine norm (rfl : _ = [_, _, _, _, _, _, _, _, _, _, _, _, _, _, _, _, _, _, _, _, _, _, _, _, _, _, _, _, _, _, _, _, _, _, _, _, _, _, _, _, _, _, _, _, _, _, _, _, _, _, _, _, _, _]) ?_
        have hs103 := hc101.size
        replace hb73 := hb73.chg hc101 (by omega)
        replace hO := hO.chg hc101 (by omega)
        replace hM4 := hM4.chgR hc101 (by omega)
        replace hS67 := hS67.chg hc101 (by omega)
        refine s_appendX kLn (z := (.agg #[.string ⟨#[]⟩, .int .i64 0])) (bytes := 24) (ys := [⟨e81, ((getA e81 L).getD 0)⟩]) (ok2 := fun _ => False) Try.underlying42 (by kernel_rfl) rfl (by decide) (by decide) (by decide) rfl hO rfl (flat_one (kLn_cells.2 rfl)) (had_bx hB100) (fun _ hb _ => hb.elim) (by have hfl := List.length_filterMap_le (lineK L) ((keysL L).take j); simp only [List.length_take] at hfl; simp [lim]; omega) ?_
        intro v104 w105 hO106 hc107
        refine norm (rfl : _ = [_, _, _, _, _, _, _, _, _, _, _, _, _, _, _, _, _, _, _, _, _, _, _, _, _, _, _, _, _, _, _, _, _, _, _, _, _, _, _, _, _, _, _, _, _, _, _, _, _, _, _, _, _, _]) ?_
        have hs108 := hc107.size
        replace hb73 := hb73.chg hc107 (by omega)
        replace hM4 := hM4.chgR hc107 (by omega)
        replace hS67 := hS67.chg hc107 (by omega)
        refine s_val (v := v104) rfl (r_assign rfl) (rfl : _ = [_, _, _, _, _, _, _, _, _, _, _, _, _, _, _, _, _, _, _, _, _, _, _, _, _, _, _, _, _, _, _, _, _, _, _, _, _, _, _, _, _, _, _, _, _, _, _, _, _, _, _, _, _, _]) ?_
        refine s_nil rfl ?_
        refine x_block ?_
        refine x_seq ?_
        refine c_region ?_
        refine s_val (v := (.int .i64 ((j : Int) + 1))) rfl (r_add (c := (j : Int) + 1) rfl rfl (i64_in (by omega) (by omega))) (rfl : _ = [_, _, _, _, _, _, _, _, _, _, _, _, _, _, _, _, _, _, _, _, _, _, _, _, _, _, _, _, _, _, _, _, _, _, _, _, _, _, _, _, _, _, _, _, _, _, _, _, _, _, _, _, _, _]) ?_
        refine s_val (v := (.int .i64 ((j : Int) + 1))) rfl (r_move rfl) (rfl : _ = [_, _, _, _, _, _, _, _, _, _, _, _, _, _, _, _, _, _, _, _, _, _, _, _, _, _, _, _, _, _, _, _, _, _, _, _, _, _, _, _, _, _, _, _, _, _, _, _, _, _, _, _, _, _]) ?_
        refine s_nil rfl ?_
        refine x_then ?_
        have hst := filterMap_snoc (L := L) he85
        rw [show lineK L e81 = some ⟨e81, (getA e81 L).getD 0⟩ from if_pos (by assumption)] at hst
        refine ⟨_, _, ?_, rfl, (j + 1), v104, w105.heap.size, (fun n_ => ([jk72 0, jk72 1, jk72 2, jk72 3, jk72 4, jk72 5, jk72 6, .string e81, jk72 8, jk72 9, jk72 10, jk72 11, jk72 12, jk72 13, jk72 14, jk72 15, jk72 16, jk72 17, jk72 18, jk72 19, jk72 20, jk72 21, jk72 22, jk72 23, jk72 24, jk72 25, jk72 26, jk72 27, jk72 28, jk72 29, jk72 30, .bool true, .pointer (some ⟨a82, o83, none⟩), .string e81, .map (some m1), .string e81, .int .i64 ((getA e81 L).getD 0), .bool true, out, .string e81, .map (some m1), .string e81, .int .i64 ((getA e81 L).getD 0), .agg #[.string e81, .int .i64 ((getA e81 L).getD 0)], .slice (some ⟨a97, 0, none⟩) 1 1, v104, .int .i64 ((j : Int) + 1)] : List Value).getD n_ undef), rfl, rfl, (by omega), hb73, (by omega), (by rw [hst]; simpa using hO106), hM4, hS67⟩
        omega
      | false =>
        replace hb93 := bf hb93
        refine c_cond rfl (fun hh => by cases hh) (fun _ => ?_)
        refine c_skip ?_
        refine x_block ?_
        refine x_seq ?_
        refine c_region ?_
        refine s_val (v := (.int .i64 ((j : Int) + 1))) rfl (r_add (c := (j : Int) + 1) rfl rfl (i64_in (by omega) (by omega))) (rfl : _ = [_, _, _, _, _, _, _, _, _, _, _, _, _, _, _, _, _, _, _, _, _, _, _, _, _, _, _, _, _, _, _, _, _, _, _, _, _, _, _, _, _, _, _, _, _, _, _, _, _, _, _, _, _, _]) ?_
        refine s_val (v := (.int .i64 ((j : Int) + 1))) rfl (r_move rfl) (rfl : _ = [_, _, _, _, _, _, _, _, _, _, _, _, _, _, _, _, _, _, _, _, _, _, _, _, _, _, _, _, _, _, _, _, _, _, _, _, _, _, _, _, _, _, _, _, _, _, _, _, _, _, _, _, _, _]) ?_
        refine s_nil rfl ?_
        refine x_then ?_
        have hst := filterMap_snoc (L := L) he85
        rw [show lineK L e81 = none from if_neg (by assumption)] at hst
        refine ⟨_, _, ?_, rfl, (j + 1), out, hh, (fun n_ => ([jk72 0, jk72 1, jk72 2, jk72 3, jk72 4, jk72 5, jk72 6, .string e81, jk72 8, jk72 9, jk72 10, jk72 11, jk72 12, jk72 13, jk72 14, jk72 15, jk72 16, jk72 17, jk72 18, jk72 19, jk72 20, jk72 21, jk72 22, jk72 23, jk72 24, jk72 25, jk72 26, jk72 27, jk72 28, jk72 29, jk72 30, .bool true, .pointer (some ⟨a82, o83, none⟩), .string e81, .map (some m1), .string e81, .int .i64 ((getA e81 L).getD 0), .bool false, jk72 38, jk72 39, jk72 40, jk72 41, jk72 42, jk72 43, jk72 44, jk72 45, .int .i64 ((j : Int) + 1)] : List Value).getD n_ undef), rfl, rfl, (by omega), hb73, (by omega), (by rw [hst]; simpa using hO), hM4, hS67⟩
        omega
    | false =>
      replace hb80 := bf hb80
      refine c_cond rfl (fun hh => by cases hh) (fun _ => ?_)
      refine c_exit ?_
      refine x_then_exit ?_
      refine x_then_exit ?_
      refine x_block_same ?_
      refine x_seq ?_
      refine c_seq ?_
      refine c_region ?_
      refine s_val (v := out) rfl (r_move rfl) (rfl : _ = [_, _, _, _, _, _, _, _, _, _, _, _, _, _, _, _, _, _, _, _, _, _, _, _, _, _, _, _, _, _, _, _, _, _, _, _, _, _, _, _, _, _, _, _, _, _, _, _, _, _, _, _, _, _]) ?_
      refine s_val (v := out) rfl (r_assign rfl) (rfl : _ = [_, _, _, _, _, _, _, _, _, _, _, _, _, _, _, _, _, _, _, _, _, _, _, _, _, _, _, _, _, _, _, _, _, _, _, _, _, _, _, _, _, _, _, _, _, _, _, _, _, _, _, _, _, _]) ?_
      refine s_nil rfl ?_
      refine x_seq ?_
      refine c_ret ?_
      refine post_ret rfl rfl ?_
      have hi2 : i = (onceL (standL l)).length := by omega
      subst hi2
      have hj2 : j = (keysL L).length := by omega
      subst hj2
      rw [List.take_length] at hL hO
      subst hL
      exact ⟨hO.sl.rg (by decide) (fun b _ hh => by omega), hb73⟩

end Go.Proofs.Ytailhdcackkegaa.Wd
