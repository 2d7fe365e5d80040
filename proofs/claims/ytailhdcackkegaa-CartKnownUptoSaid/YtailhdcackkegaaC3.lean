/- cart.once and its function, cart.clears. -/
import Derived.Test.YtailhdcackkegaaCl
import Derived.Test.YtailhdcackkegaaM1
import Derived.Test.YtailhdcackkegaaC2
import Derived.Test.YtailhdcackkegaaProg
namespace Go.Proofs.Ytailhdcackkegaa.Wd
open Go.RowKit
set_option linter.unusedVariables false
set_option linter.unusedSimpArgs false

/-- Told true of the first event of each dot. -/
def selOnce (L : List (Dot × Bool)) (e : Ev) : Bool × List (Dot × Bool) := (!((getA e.dot L).getD false), putA e.dot true L)
def onceL (l : List Ev) : List Ev := (whereL selOnce [] l).1
/-- By which vectors events of each article go. -/
def clearsF : List Ev → (Art → List (List Int)) → Art → List (List Int)
  | [], f => f
  | e :: l, f => clearsF l (bif e.clears then putF f ⟨e.cart, e.sku⟩ (f ⟨e.cart, e.sku⟩ ++ [e.deps]) else f)
theorem clearsF_snoc (e : Ev) : ∀ (l : List Ev) (f : Art → List (List Int)), clearsF (l ++ [e]) f = (bif e.clears then putF (clearsF l f) ⟨e.cart, e.sku⟩ (clearsF l f ⟨e.cart, e.sku⟩ ++ [e.deps]) else clearsF l f)
  | [], f => rfl
  | a :: l, f => by simp only [List.cons_append, clearsF]; exact clearsF_snoc e l _
theorem clearsF_len (k : Art) : ∀ (l : List Ev) (f : Art → List (List Int)), (clearsF l f k).length ≤ (f k).length + l.length
  | [], f => by simp [clearsF]
  | a :: l, f => by
    have := clearsF_len k l (bif a.clears then putF f ⟨a.cart, a.sku⟩ (f ⟨a.cart, a.sku⟩ ++ [a.deps]) else f)
    simp only [clearsF, List.length_cons]
    refine Nat.le_trans this ?_
    cases a.clears
    · simp
    · simp only [cond_true, putF]
      by_cases h : k = ⟨a.cart, a.sku⟩
      · rw [if_pos h, h]; simp; omega
      · rw [if_neg h]; omega

theorem once1_c {ok : Nat → Prop} {w : World} {e : Ev} {d : Value} (hd : Sl kInt ok w d e.deps) {bs bm : Nat} {L : List (Dot × Bool)} (hX : Bx w bs [.map (some bm)] 122) (hM : Mp (fun d : Dot => Value.agg #[.int .i64 d.o, .int .i64 d.s]) Kd.bool (Rg 0 0 0) w bm L) (hne : bs ≠ bm) :
    CallsV Try.prog 88 #[(.agg #[.int .i64 e.dot.o, .int .i64 e.dot.s, d, .string e.cart, .int .i64 e.epoch, .string e.sku, .int .i64 e.qty, .bool e.clears]), (.pointer (some ⟨bs, 0, none⟩))] w (fun r w' => r = .bool (selOnce L e).1 ∧ Bx w' bs [.map (some bm)] 122 ∧ Mp (fun d : Dot => Value.agg #[.int .i64 d.o, .int .i64 d.s]) Kd.bool (Rg 0 0 0) w' bm ((selOnce L e).2) ∧ Chg bm (bm + 1) w w') := by
  have hb := Bel.refl w
  replace hd : Sl kInt (Rg w.heap.size 0 0) w d e.deps := hd.weak (by decide) (fun b _ hl => .inl hl)
  have hdlim := lim_le hd.lim
  have hXl := hX.lt
  have hMl := hM.lt
  have hb : Chg bm (bm + 1) w w := Chg.refl _ _ _
  refine callsV_of Try.func88 (m := 12) Try.ntmps88 rfl rfl (l := [.agg #[.int .i64 e.dot.o, .int .i64 e.dot.s, d, .string e.cart, .int .i64 e.epoch, .string e.sku, .int .i64 e.qty, .bool e.clears], .pointer (some ⟨bs, 0, none⟩), undef, undef, undef, undef, undef, undef, undef, undef, undef, undef, undef, undef]) rfl ?_
  refine c_seq ?_
  refine c_region ?_
  refine s_box (v := (.agg #[.int .i64 e.dot.o, .int .i64 e.dot.s, d, .string e.cart, .int .i64 e.epoch, .string e.sku, .int .i64 e.qty, .bool e.clears])) 39 _ rfl rfl ?_
  intro a1 w2 he3 hB4 hc5 hz6
  refine norm (rfl : _ = [_, _, _, _, _, _, _, _, _, _, _, _, _, _]) ?_
  have hs7 := hc5.size
  replace hb := hb.chg hc5 (by omega)
  replace hX := hX.chg hc5 (by omega)
  replace hM := hM.chgR hc5 (by omega)
  refine s_val (v := (.bool false)) rfl (r_assign rfl) (rfl : _ = [_, _, _, _, _, _, _, _, _, _, _, _, _, _]) ?_
  refine s_nil rfl ?_
  refine x_seq ?_
  refine c_seq ?_
  refine c_region ?_
  refine s_val (v := (.map (some bm))) rfl (r_load rfl (Ld.one Try.underlying122 rfl (hX.cell (i := 0) rfl))) (rfl : _ = [_, _, _, _, _, _, _, _, _, _, _, _, _, _]) ?_
  refine s_val (v := (.pointer (some ⟨a1, 0, none⟩))) rfl (r_field (k := 0) (o := 0) (by kernel_rfl) rfl) (rfl : _ = [_, _, _, _, _, _, _, _, _, _, _, _, _, _]) ?_
  refine s_val (v := (.agg #[.int .i64 e.dot.o, .int .i64 e.dot.s])) rfl (r_load rfl (Ld.row (cs := [.int .i64 e.dot.o, .int .i64 e.dot.s]) Try.underlying37 rfl (by kernel_rfl) (hB4.range 0 rfl))) (rfl : _ = [_, _, _, _, _, _, _, _, _, _, _, _, _, _]) ?_
  obtain ⟨v8, hv9, hk10⟩ := hM.look keyOk_Dot Try.underlying122 (z := .bool false) (zb := false) (by kernel_rfl) rfl e.dot
  obtain rfl : v8 = (.bool ((getA e.dot L).getD false)) := (List.cons.inj (show [v8] = [(.bool ((getA e.dot L).getD false))] from hv9)).1
  refine s_boolv rfl (hk10 _ _ _ rfl rfl) ?_
  intro b11 hb11
  refine norm (rfl : _ = [_, _, _, _, _, _, _, _, _, _, _, _, _, _]) ?_
  refine s_val (v := (.bool b11)) rfl (r_assign rfl) (rfl : _ = [_, _, _, _, _, _, _, _, _, _, _, _, _, _]) ?_
  refine s_nil rfl ?_
  refine x_seq ?_
  refine c_seq ?_
  refine c_region ?_
  refine s_val (v := (.map (some bm))) rfl (r_load rfl (Ld.one Try.underlying122 rfl (hX.cell (i := 0) rfl))) (rfl : _ = [_, _, _, _, _, _, _, _, _, _, _, _, _, _]) ?_
  refine s_val (v := (.pointer (some ⟨a1, 0, none⟩))) rfl (r_field (k := 0) (o := 0) (by kernel_rfl) rfl) (rfl : _ = [_, _, _, _, _, _, _, _, _, _, _, _, _, _]) ?_
  refine s_val (v := (.agg #[.int .i64 e.dot.o, .int .i64 e.dot.s])) rfl (r_load rfl (Ld.row (cs := [.int .i64 e.dot.o, .int .i64 e.dot.s]) Try.underlying37 rfl (by kernel_rfl) (hB4.range 0 rfl))) (rfl : _ = [_, _, _, _, _, _, _, _, _, _, _, _, _, _]) ?_
  refine s_mapUpdate 122 _ _ _ rfl hM keyOk_Dot Try.underlying122 (k := e.dot) (xv := true) rfl rfl rfl rfl (by omega) ?_
  intro w12 hM13 hc14 hz15
  have hs16 := hc14.size
  replace hb := hb.chg hc14 (by omega)
  replace hX := hX.chg hc14 (by omega)
  replace hB4 := hB4.chg hc14 (by omega)
  refine s_nil rfl ?_
  refine x_seq ?_
  refine c_seq ?_
  refine c_region ?_
  refine s_val (v := (.bool b11)) rfl (r_move rfl) (rfl : _ = [_, _, _, _, _, _, _, _, _, _, _, _, _, _]) ?_
  refine s_val rfl (r_not rfl rfl) (rfl : _ = [_, _, _, _, _, _, _, _, _, _, _, _, _, _]) ?_
  refine s_val (v := (.bool (!b11))) rfl (r_assign rfl) (rfl : _ = [_, _, _, _, _, _, _, _, _, _, _, _, _, _]) ?_
  refine s_nil rfl ?_
  refine x_seq ?_
  refine c_ret ?_
  refine post_ret rfl rfl ?_
  exact ⟨by subst_vars; rfl, hX, hM13, hb⟩

theorem once_c {ok : Nat → Prop} {w : World} {v : Value} {l : List Ev} (hS : Sl kEv ok w v l) :
    CallsV Try.prog 55 #[v] w (fun r w' => Sl kEv (Rg 0 w.heap.size w'.heap.size) w' r (onceL l) ∧ Bel w w') := by
  have hb := Bel.refl w
  replace hS : Sl kEv (Rg w.heap.size 0 0) w v l := hS.weak (by decide) (fun b _ hl => .inl hl)
  have hSlim := lim_le hS.lim
  refine callsV_of Try.func55 (m := 7) Try.ntmps55 rfl rfl (l := [v, undef, undef, undef, undef, undef, undef, undef]) rfl ?_
  refine c_seq ?_
  refine c_region ?_
  refine s_val (v := (.slice none 0 0)) rfl (r_assign rfl) (rfl : _ = [_, _, _, _, _, _, _, _]) ?_
  refine s_nil rfl ?_
  refine x_seq ?_
  refine c_seq ?_
  refine c_region ?_
  refine s_makeMap 122 (fun d : Dot => Value.agg #[.int .i64 d.o, .int .i64 d.s]) Kd.bool (Rg 0 0 0) rfl ?_
  intro m1 w2 he3 hM4 hc5 hz6
  refine norm (rfl : _ = [_, _, _, _, _, _, _, _]) ?_
  have hs7 := hc5.size
  replace hb := hb.chg hc5 (by omega)
  refine s_alloc (z := (.map none)) 122 (by kernel_rfl) rfl ?_
  intro a8 w9 he10 hB11 hc12 hz13
  refine norm (rfl : _ = [_, _, _, _, _, _, _, _]) ?_
  have hs14 := hc12.size
  replace hb := hb.chg hc12 (by omega)
  replace hM4 := hM4.chgR hc12 (by omega)
  refine s_store (b := a8) (o := 0) (vs := [.map (some m1)]) (cs := [.map none]) (cs' := [.map (some m1)]) 122 _ _ rfl (v := (.map (some m1))) rfl rfl rfl hB11 (by kernel_rfl) ⟨rfl, trivial⟩ (by simp) rfl ?_
  intro w15 hB16 hc17 hz18
  have hs19 := hc17.size
  replace hb := hb.chg hc17 (by omega)
  replace hM4 := hM4.chgR hc17 (by omega)
  refine s_nil rfl ?_
  refine x_seq ?_
  refine c_seq ?_
  refine c_region ?_
  refine s_val (v := v) rfl (r_move rfl) (rfl : _ = [_, _, _, _, _, _, _, _]) ?_
  refine s_val (v := (.func (.func 88) #[] #[(.pointer (some ⟨a8, 0, none⟩))])) rfl (r_makeFunc rfl) (rfl : _ = [_, _, _, _, _, _, _, _]) ?_
  refine s_call 58 _ _ (by kernel_rfl) rfl rfl (where_c (f := 88) (cap := [.pointer (some ⟨a8, 0, none⟩)]) (hS.at_ hb) (n := m1) (h := (a8 + 1)) (by omega) (by omega) (fun b hb hl => by unfold Rg at hb; omega) (by kernel_rfl) selOnce [] (fun L w => Bx w a8 [.map (some m1)] 122 ∧ Mp (fun d : Dot => Value.agg #[.int .i64 d.o, .int .i64 d.s]) Kd.bool (Rg 0 0 0) w m1 L) ⟨hB16, hM4⟩ (fun s w1 w2 p q hj hc hpq => ⟨hj.1.chg hc (by omega), hj.2.chgR hc (by omega)⟩) (fun s w1 e cs ok' hj hc hrd => by obtain ⟨d, rfl, hd⟩ := kEv_cells.1 hrd; exact (once1_c hd hj.1 hj.2 (by omega)).mono (fun r w2 hh => ⟨hh.1, ⟨hh.2.1, hh.2.2.1⟩, hh.2.2.2.wide (by omega)⟩))) ?_
  rintro v20 w21 ⟨hSw, hJ22, hc23⟩
  refine norm (rfl : _ = [_, _, _, _, _, _, _, _]) ?_
  have hs24 := hc23.size
  replace hb := hb.chg hc23 (by omega)
  refine s_val (v := v20) rfl (r_assign rfl) (rfl : _ = [_, _, _, _, _, _, _, _]) ?_
  refine s_nil rfl ?_
  refine x_seq ?_
  refine c_ret ?_
  refine post_ret rfl rfl ?_
  exact ⟨hSw.rg (by decide) (fun b hl hh => by omega), hb⟩

theorem clears_c {ok : Nat → Prop} {w : World} {v : Value} {l : List Ev} (hS : Sl kEv ok w v l) :
    CallsV Try.prog 84 #[v] w (fun r w' => ∃ b L0, r = .map (some b) ∧ w.heap.size ≤ b ∧ b < w'.heap.size ∧ Mp (fun d : Art => Value.agg #[.string d.cart, .string d.sku]) kRaw (Rg 0 0 0) w' b L0 ∧ Clr w.heap.size (b + 1) w'.heap.size 23 w' L0 (clearsF l (fun _ => [])) ∧ Bel w w') := by
  have hb := Bel.refl w
  replace hS : Sl kEv (Rg w.heap.size 0 0) w v l := hS.weak (by decide) (fun b _ hl => .inl hl)
  have hSlim := lim_le hS.lim
  refine callsV_of Try.func84 (m := 31) Try.ntmps84 rfl rfl (l := [v, undef, undef, undef, undef, undef, undef, undef, undef, undef, undef, undef, undef, undef, undef, undef, undef, undef, undef, undef, undef, undef, undef, undef, undef, undef, undef, undef, undef, undef, undef, undef]) rfl ?_
  refine c_seq ?_
  refine c_region ?_
  refine s_val (v := (.map none)) rfl (r_assign rfl) (rfl : _ = [_, _, _, _, _, _, _, _, _, _, _, _, _, _, _, _, _, _, _, _, _, _, _, _, _, _, _, _, _, _, _, _]) ?_
  refine s_nil rfl ?_
  refine x_seq ?_
  refine c_seq ?_
  refine c_region ?_
  refine s_makeMap 115 (fun d : Art => Value.agg #[.string d.cart, .string d.sku]) kRaw (Rg 0 0 0) rfl ?_
  intro m1 w2 he3 hM4 hc5 hz6
  refine norm (rfl : _ = [_, _, _, _, _, _, _, _, _, _, _, _, _, _, _, _, _, _, _, _, _, _, _, _, _, _, _, _, _, _, _, _]) ?_
  have hs7 := hc5.size
  replace hb := hb.chg hc5 (by omega)
  refine s_val (v := (.map (some m1))) rfl (r_assign rfl) (rfl : _ = [_, _, _, _, _, _, _, _, _, _, _, _, _, _, _, _, _, _, _, _, _, _, _, _, _, _, _, _, _, _, _, _]) ?_
  refine s_nil rfl ?_
  refine x_seq ?_
  refine c_seq ?_
  refine c_seq ?_
  refine c_region ?_
  refine s_val (v := v) rfl (r_move rfl) (rfl : _ = [_, _, _, _, _, _, _, _, _, _, _, _, _, _, _, _, _, _, _, _, _, _, _, _, _, _, _, _, _, _, _, _]) ?_
  refine s_val (v := (.int .i64 (l.length : Int))) rfl ((hS.at_ hb).len Try.underlying34 rfl _) (rfl : _ = [_, _, _, _, _, _, _, _, _, _, _, _, _, _, _, _, _, _, _, _, _, _, _, _, _, _, _, _, _, _, _, _]) ?_
  refine s_val (v := (.int .i64 0)) rfl (r_move rfl) (rfl : _ = [_, _, _, _, _, _, _, _, _, _, _, _, _, _, _, _, _, _, _, _, _, _, _, _, _, _, _, _, _, _, _, _]) ?_
  refine s_nil rfl ?_
  refine x_seq ?_
  refine c_block ?_
  refine c_loop (fun kk_ fr_ wr8 => ∃ (i : Nat) (L0 : List (Art × Value)) (hh : Nat) (jk9 : Nat → Value), kk_ = l.length - i ∧ fr_ = [jk9 0, jk9 1, .map none, .map (some m1), jk9 2, jk9 3, jk9 4, jk9 5, v, .int .i64 (l.length : Int), .int .i64 (i : Int), jk9 6, jk9 7, jk9 8, jk9 9, jk9 10, jk9 11, jk9 12, jk9 13, jk9 14, jk9 15, jk9 16, jk9 17, jk9 18, jk9 19, jk9 20, jk9 21, jk9 22, jk9 23, jk9 24, jk9 25, undef] ∧ (i ≤ l.length) ∧ Bel w wr8 ∧ w2.heap.size ≤ wr8.heap.size ∧ Mp (fun d : Art => Value.agg #[.string d.cart, .string d.sku]) kRaw (Rg 0 0 0) wr8 m1 L0 ∧ Clr w.heap.size (m1 + 1) hh 23 wr8 L0 (clearsF (l.take i) (fun _ => []))) _ ⟨0, [], (m1 + 1), (fun n_ => ([v, undef, undef, undef, undef, .map (some m1), undef, undef, undef, undef, undef, undef, undef, undef, undef, undef, undef, undef, undef, undef, undef, undef, undef, undef, undef, undef] : List Value).getD n_ undef), rfl, rfl, (Nat.zero_le _), hb, (Nat.le_refl _), hM4, (Clr.start (by omega) (by omega))⟩ ?_
  rintro _ _ wr8 ⟨i, L0, hh, jk9, rfl, rfl, hi, hb10, hws11, hM4, hC⟩
  have hs12 := hb10.size
  have hl13 := hM4.lt
  have hl14 := hC.le
  refine c_seq ?_
  refine c_region ?_
  refine s_bool (p := ((i : Int) < (l.length : Int) : Prop)) rfl (r_lss rfl rfl) decide_eq_true_iff ?_
  intro b15 hb15
  refine norm (rfl : _ = [_, _, _, _, _, _, _, _, _, _, _, _, _, _, _, _, _, _, _, _, _, _, _, _, _, _, _, _, _, _, _, _]) ?_
  refine s_nil rfl ?_
  refine x_seq ?_
  refine c_seq ?_
  cases b15 with
  | true =>
    replace hb15 := bt hb15
    refine c_cond rfl (fun _ => ?_) (fun hh => by cases hh)
    refine c_skip ?_
    refine x_seq ?_
    refine c_seq ?_
    refine c_block ?_
    refine c_seq ?_
    refine c_region ?_
    obtain ⟨e16, a17, o18, c19, he20, hc21, hr22, hk23, hi24⟩ := (hS.at_ hb10).idx (j := (i : Int)) (by first | omega | decide) (by first | omega | simp)
    rw [Int.toNat_natCast] at he20
    obtain ⟨d25, rfl, hd26⟩ := kEv_cells.1 hc21
    refine s_val rfl (hi24 _ _ _ _ _ _ _ (by kernel_rfl) rfl rfl) (rfl : _ = [_, _, _, _, _, _, _, _, _, _, _, _, _, _, _, _, _, _, _, _, _, _, _, _, _, _, _, _, _, _, _, _]) ?_
    refine s_val (v := (.agg #[.int .i64 e16.dot.o, .int .i64 e16.dot.s, d25, .string e16.cart, .int .i64 e16.epoch, .string e16.sku, .int .i64 e16.qty, .bool e16.clears])) rfl (r_load rfl (Ld.row Try.underlying39 rfl (by kernel_rfl) hr22)) (rfl : _ = [_, _, _, _, _, _, _, _, _, _, _, _, _, _, _, _, _, _, _, _, _, _, _, _, _, _, _, _, _, _, _, _]) ?_
    refine s_alloc (z := (.agg #[.int .i64 0, .int .i64 0, .slice none 0 0, .string ⟨#[]⟩, .int .i64 0, .string ⟨#[]⟩, .int .i64 0, .bool false])) 39 (by kernel_rfl) rfl ?_
    intro a27 w28 he29 hB30 hc31 hz32
    refine norm (rfl : _ = [_, _, _, _, _, _, _, _, _, _, _, _, _, _, _, _, _, _, _, _, _, _, _, _, _, _, _, _, _, _, _, _]) ?_
    have hs33 := hc31.size
    replace hb10 := hb10.chg hc31 (by omega)
    replace hM4 := hM4.chgR hc31 (by omega)
    replace hC := hC.chg hc31 (by omega)
    replace hd26 := hd26.chg hc31 (by omega)
    refine s_store (b := a27) (o := 0) (vs := [.int .i64 e16.dot.o, .int .i64 e16.dot.s, d25, .string e16.cart, .int .i64 e16.epoch, .string e16.sku, .int .i64 e16.qty, .bool e16.clears]) (cs := [.int .i64 0, .int .i64 0, .slice none 0 0, .string ⟨#[]⟩, .int .i64 0, .string ⟨#[]⟩, .int .i64 0, .bool false]) (cs' := [.int .i64 e16.dot.o, .int .i64 e16.dot.s, d25, .string e16.cart, .int .i64 e16.epoch, .string e16.sku, .int .i64 e16.qty, .bool e16.clears]) 39 _ _ rfl (v := (.agg #[.int .i64 e16.dot.o, .int .i64 e16.dot.s, d25, .string e16.cart, .int .i64 e16.epoch, .string e16.sku, .int .i64 e16.qty, .bool e16.clears])) rfl rfl rfl hB30 (by kernel_rfl) ⟨rfl, rfl, hd26.one, rfl, rfl, rfl, rfl, rfl, trivial⟩ (by simp) rfl ?_
    intro w34 hB35 hc36 hz37
    have hs38 := hc36.size
    replace hb10 := hb10.chg hc36 (by omega)
    replace hM4 := hM4.chgR hc36 (by omega)
    replace hC := hC.chg hc36 (by omega)
    replace hd26 := hd26.chg hc36 (by omega)
    refine s_nil rfl ?_
    refine x_seq ?_
    refine c_seq ?_
    refine c_region ?_
    refine s_val (v := (.pointer (some ⟨a27, 7, none⟩))) rfl (r_field (k := 7) (o := 0) (by kernel_rfl) rfl) (rfl : _ = [_, _, _, _, _, _, _, _, _, _, _, _, _, _, _, _, _, _, _, _, _, _, _, _, _, _, _, _, _, _, _, _]) ?_
    refine s_boolv rfl (r_load rfl (Ld.one Try.underlying4 rfl (hB35.cell (i := 7) rfl))) ?_
    intro b39 hb39
    refine norm (rfl : _ = [_, _, _, _, _, _, _, _, _, _, _, _, _, _, _, _, _, _, _, _, _, _, _, _, _, _, _, _, _, _, _, _]) ?_
    refine s_nil rfl ?_
    refine x_seq ?_
    cases b39 with
    | true =>
      refine c_cond rfl (fun _ => ?_) (fun hh => by cases hh)
      refine c_seq ?_
      refine c_region ?_
      refine s_val (v := (.pointer (some ⟨a27, 3, none⟩))) rfl (r_field (k := 3) (o := 0) (by kernel_rfl) rfl) (rfl : _ = [_, _, _, _, _, _, _, _, _, _, _, _, _, _, _, _, _, _, _, _, _, _, _, _, _, _, _, _, _, _, _, _]) ?_
      refine s_val (v := (.string e16.cart)) rfl (r_load rfl (Ld.one Try.underlying9 rfl (hB35.cell (i := 3) rfl))) (rfl : _ = [_, _, _, _, _, _, _, _, _, _, _, _, _, _, _, _, _, _, _, _, _, _, _, _, _, _, _, _, _, _, _, _]) ?_
      refine s_val (v := (.pointer (some ⟨a27, 5, none⟩))) rfl (r_field (k := 5) (o := 0) (by kernel_rfl) rfl) (rfl : _ = [_, _, _, _, _, _, _, _, _, _, _, _, _, _, _, _, _, _, _, _, _, _, _, _, _, _, _, _, _, _, _, _]) ?_
      refine s_val (v := (.string e16.sku)) rfl (r_load rfl (Ld.one Try.underlying9 rfl (hB35.cell (i := 5) rfl))) (rfl : _ = [_, _, _, _, _, _, _, _, _, _, _, _, _, _, _, _, _, _, _, _, _, _, _, _, _, _, _, _, _, _, _, _]) ?_
      refine s_val rfl (r_build (v := (.agg #[.string e16.cart, .string e16.sku])) rfl (by kernel_rfl)) (rfl : _ = [_, _, _, _, _, _, _, _, _, _, _, _, _, _, _, _, _, _, _, _, _, _, _, _, _, _, _, _, _, _, _, _]) ?_
      refine s_alloc (z := (.agg #[.string ⟨#[]⟩, .string ⟨#[]⟩])) 120 (by kernel_rfl) rfl ?_
      intro a40 w41 he42 hB43 hc44 hz45
      refine norm (rfl : _ = [_, _, _, _, _, _, _, _, _, _, _, _, _, _, _, _, _, _, _, _, _, _, _, _, _, _, _, _, _, _, _, _]) ?_
      have hs46 := hc44.size
      replace hb10 := hb10.chg hc44 (by omega)
      replace hM4 := hM4.chgR hc44 (by omega)
      replace hC := hC.chg hc44 (by omega)
      replace hd26 := hd26.chg hc44 (by omega)
      replace hB35 := hB35.chg hc44 (by omega)
      refine s_store (b := a40) (o := 0) (vs := [.string e16.cart, .string e16.sku]) (cs := [.string ⟨#[]⟩, .string ⟨#[]⟩]) (cs' := [.string e16.cart, .string e16.sku]) 120 _ _ rfl (v := (.agg #[.string e16.cart, .string e16.sku])) rfl rfl rfl hB43 (by kernel_rfl) ⟨rfl, rfl, trivial⟩ (by simp) rfl ?_
      intro w47 hB48 hc49 hz50
      have hs51 := hc49.size
      replace hb10 := hb10.chg hc49 (by omega)
      replace hM4 := hM4.chgR hc49 (by omega)
      replace hC := hC.chg hc49 (by omega)
      replace hd26 := hd26.chg hc49 (by omega)
      replace hB35 := hB35.chg hc49 (by omega)
      refine s_nil rfl ?_
      refine x_seq ?_
      refine c_region ?_
      refine s_val (v := (.map (some m1))) rfl (r_move rfl) (rfl : _ = [_, _, _, _, _, _, _, _, _, _, _, _, _, _, _, _, _, _, _, _, _, _, _, _, _, _, _, _, _, _, _, _]) ?_
      refine s_val (v := (.agg #[.string e16.cart, .string e16.sku])) rfl (r_load rfl (Ld.row (cs := [.string e16.cart, .string e16.sku]) Try.underlying120 rfl (by kernel_rfl) (hB48.range 0 rfl))) (rfl : _ = [_, _, _, _, _, _, _, _, _, _, _, _, _, _, _, _, _, _, _, _, _, _, _, _, _, _, _, _, _, _, _, _]) ?_
      refine s_val (v := (.pointer (some ⟨a27, 2, none⟩))) rfl (r_field (k := 2) (o := 0) (by kernel_rfl) rfl) (rfl : _ = [_, _, _, _, _, _, _, _, _, _, _, _, _, _, _, _, _, _, _, _, _, _, _, _, _, _, _, _, _, _, _, _]) ?_
      refine s_val (v := d25) rfl (r_load rfl (Ld.one Try.underlying23 rfl (hB35.cell (i := 2) rfl))) (rfl : _ = [_, _, _, _, _, _, _, _, _, _, _, _, _, _, _, _, _, _, _, _, _, _, _, _, _, _, _, _, _, _, _, _]) ?_
      refine s_buildSlice (cs := [d25]) (e := 23) 118 1 _ rfl rfl (by obtain ⟨_, _, rfl, _⟩ := hd26; kernel_rfl) ?_
      intro a52 w53 he54 hB55 hc56 hz57
      refine norm (rfl : _ = [_, _, _, _, _, _, _, _, _, _, _, _, _, _, _, _, _, _, _, _, _, _, _, _, _, _, _, _, _, _, _, _]) ?_
      have hs58 := hc56.size
      replace hb10 := hb10.chg hc56 (by omega)
      replace hM4 := hM4.chgR hc56 (by omega)
      replace hC := hC.chg hc56 (by omega)
      replace hd26 := hd26.chg hc56 (by omega)
      replace hB35 := hB35.chg hc56 (by omega)
      replace hB48 := hB48.chg hc56 (by omega)
      refine s_mapEntry 115 _ _ rfl hM4 keyOk_Art Try.underlying115 (z := .slice none 0 0) (zb := .slice none 0 0) (by kernel_rfl) ⟨rfl, rfl⟩ (k := ⟨e16.cart, e16.sku⟩) rfl rfl (by omega) ?_
      intro v59 s60 L61 w62 hM63 hL64 hv65 hc66 hz67
      obtain rfl : v59 = ((getA ⟨e16.cart, e16.sku⟩ L0).getD (.slice none 0 0)) := (List.cons.inj (show [v59] = [((getA ⟨e16.cart, e16.sku⟩ L0).getD (.slice none 0 0))] from hv65.1)).1
      refine norm (rfl : _ = [_, _, _, _, _, _, _, _, _, _, _, _, _, _, _, _, _, _, _, _, _, _, _, _, _, _, _, _, _, _, _, _]) ?_
      have hs68 := hc66.size
      replace hb10 := hb10.chg hc66 (by omega)
      replace hC := hC.chg hc66 (by omega)
      replace hd26 := hd26.chg hc66 (by omega)
      replace hB35 := hB35.chg hc66 (by omega)
      replace hB48 := hB48.chg hc66 (by omega)
      replace hB55 := hB55.chg hc66 (by omega)
      refine s_val (v := ((getA ⟨e16.cart, e16.sku⟩ L0).getD (.slice none 0 0))) rfl (r_extract rfl rfl) (rfl : _ = [_, _, _, _, _, _, _, _, _, _, _, _, _, _, _, _, _, _, _, _, _, _, _, _, _, _, _, _, _, _, _, _]) ?_
      refine s_appendClr (z := .slice none 0 0) (bytes := 24) Try.underlying118 (by kernel_rfl) rfl (by decide) (by decide) hC (k := ⟨e16.cart, e16.sku⟩) rfl rfl hB55 hd26 (by have := clearsF_len ⟨e16.cart, e16.sku⟩ (l.take i) (fun _ => []); simp only [List.length_take, List.length_nil, lim] at *; omega) ?_
      intro v69 w70 hC71 ho72 hc73
      refine norm (rfl : _ = [_, _, _, _, _, _, _, _, _, _, _, _, _, _, _, _, _, _, _, _, _, _, _, _, _, _, _, _, _, _, _, _]) ?_
      have hs74 := hc73.size
      replace hb10 := hb10.chg hc73 (by omega)
      replace hd26 := hd26.chg hc73 (by omega)
      replace hB35 := hB35.chg hc73 (by omega)
      replace hB48 := hB48.chg hc73 (by omega)
      replace hM63 := hM63.chgR hc73 (by omega)
      refine s_val (v := (.int .i64 (s60 : Int))) rfl (r_extract rfl rfl) (rfl : _ = [_, _, _, _, _, _, _, _, _, _, _, _, _, _, _, _, _, _, _, _, _, _, _, _, _, _, _, _, _, _, _, _]) ?_
      refine s_entryStore 115 _ _ _ rfl hM63 (xv := v69) rfl rfl rfl ⟨rfl, ho72⟩ (by omega) ?_
      intro w75 hM76 hc77 hz78
      rw [hL64] at hM76
      have hs79 := hc77.size
      replace hb10 := hb10.chg hc77 (by omega)
      replace hd26 := hd26.chg hc77 (by omega)
      replace hB35 := hB35.chg hc77 (by omega)
      replace hB48 := hB48.chg hc77 (by omega)
      replace hC71 := hC71.chg hc77 (by omega)
      refine s_nil rfl ?_
      refine x_block ?_
      refine x_seq ?_
      refine c_region ?_
      refine s_val (v := (.int .i64 ((i : Int) + 1))) rfl (r_add (c := (i : Int) + 1) rfl rfl (i64_in (by omega) (by omega))) (rfl : _ = [_, _, _, _, _, _, _, _, _, _, _, _, _, _, _, _, _, _, _, _, _, _, _, _, _, _, _, _, _, _, _, _]) ?_
      refine s_val (v := (.int .i64 ((i : Int) + 1))) rfl (r_move rfl) (rfl : _ = [_, _, _, _, _, _, _, _, _, _, _, _, _, _, _, _, _, _, _, _, _, _, _, _, _, _, _, _, _, _, _, _]) ?_
      refine s_nil rfl ?_
      refine x_then ?_
      have hf := clearsF_snoc e16 (l.take i) (fun _ => [])
      rw [← take_snoc he20, hb39] at hf
      simp only [cond_true, cond_false] at hf
      refine ⟨_, _, ?_, rfl, (i + 1), (putA ⟨e16.cart, e16.sku⟩ v69 L0), w70.heap.size, (fun n_ => ([jk9 0, jk9 1, jk9 2, .pointer (some ⟨a27, 0, none⟩), .pointer (some ⟨a40, 0, none⟩), jk9 5, .bool true, .pointer (some ⟨a17, o18, none⟩), .agg #[.int .i64 e16.dot.o, .int .i64 e16.dot.s, d25, .string e16.cart, .int .i64 e16.epoch, .string e16.sku, .int .i64 e16.qty, .bool e16.clears], .pointer (some ⟨a27, 7, none⟩), .bool true, .pointer (some ⟨a27, 3, none⟩), .string e16.cart, .pointer (some ⟨a27, 5, none⟩), .string e16.sku, .agg #[.string e16.cart, .string e16.sku], .map (some m1), .agg #[.string e16.cart, .string e16.sku], (getA ⟨e16.cart, e16.sku⟩ L0).getD (.slice none 0 0), .pointer (some ⟨a27, 2, none⟩), d25, .slice (some ⟨a52, 0, none⟩) 1 1, .tuple #[((getA ⟨e16.cart, e16.sku⟩ L0).getD (.slice none 0 0)), (.int .i64 (s60 : Int))], v69, .int .i64 (s60 : Int), .int .i64 ((i : Int) + 1)] : List Value).getD n_ undef), rfl, rfl, (by omega), hb10, (by omega), hM76, (by rw [hf]; exact hC71)⟩
      omega
    | false =>
      refine c_cond rfl (fun hh => by cases hh) (fun _ => ?_)
      refine c_skip ?_
      refine x_block ?_
      refine x_seq ?_
      refine c_region ?_
      refine s_val (v := (.int .i64 ((i : Int) + 1))) rfl (r_add (c := (i : Int) + 1) rfl rfl (i64_in (by omega) (by omega))) (rfl : _ = [_, _, _, _, _, _, _, _, _, _, _, _, _, _, _, _, _, _, _, _, _, _, _, _, _, _, _, _, _, _, _, _]) ?_
      refine s_val (v := (.int .i64 ((i : Int) + 1))) rfl (r_move rfl) (rfl : _ = [_, _, _, _, _, _, _, _, _, _, _, _, _, _, _, _, _, _, _, _, _, _, _, _, _, _, _, _, _, _, _, _]) ?_
      refine s_nil rfl ?_
      refine x_then ?_
      have hf := clearsF_snoc e16 (l.take i) (fun _ => [])
      rw [← take_snoc he20, hb39] at hf
      simp only [cond_true, cond_false] at hf
      refine ⟨_, _, ?_, rfl, (i + 1), L0, hh, (fun n_ => ([jk9 0, jk9 1, jk9 2, .pointer (some ⟨a27, 0, none⟩), jk9 4, jk9 5, .bool true, .pointer (some ⟨a17, o18, none⟩), .agg #[.int .i64 e16.dot.o, .int .i64 e16.dot.s, d25, .string e16.cart, .int .i64 e16.epoch, .string e16.sku, .int .i64 e16.qty, .bool e16.clears], .pointer (some ⟨a27, 7, none⟩), .bool false, jk9 11, jk9 12, jk9 13, jk9 14, jk9 15, jk9 16, jk9 17, jk9 18, jk9 19, jk9 20, jk9 21, jk9 22, jk9 23, jk9 24, .int .i64 ((i : Int) + 1)] : List Value).getD n_ undef), rfl, rfl, (by omega), hb10, (by omega), hM4, (by rw [hf]; exact hC)⟩
      omega
  | false =>
    replace hb15 := bf hb15
    refine c_cond rfl (fun hh => by cases hh) (fun _ => ?_)
    refine c_exit ?_
    refine x_then_exit ?_
    refine x_then_exit ?_
    refine x_block_same ?_
    refine x_seq ?_
    refine c_seq ?_
    refine c_region ?_
    refine s_val (v := (.map (some m1))) rfl (r_move rfl) (rfl : _ = [_, _, _, _, _, _, _, _, _, _, _, _, _, _, _, _, _, _, _, _, _, _, _, _, _, _, _, _, _, _, _, _]) ?_
    refine s_val (v := (.map (some m1))) rfl (r_assign rfl) (rfl : _ = [_, _, _, _, _, _, _, _, _, _, _, _, _, _, _, _, _, _, _, _, _, _, _, _, _, _, _, _, _, _, _, _]) ?_
    refine s_nil rfl ?_
    refine x_seq ?_
    refine c_ret ?_
    refine post_ret rfl rfl ?_
    have hi2 : i = l.length := by omega
    subst hi2
    rw [List.take_length] at hC
    have hCl := hC.le
    exact ⟨_, _, rfl, by omega, by omega, hM4, hC.widen (by omega), hb10⟩

end Go.Proofs.Ytailhdcackkegaa.Wd
