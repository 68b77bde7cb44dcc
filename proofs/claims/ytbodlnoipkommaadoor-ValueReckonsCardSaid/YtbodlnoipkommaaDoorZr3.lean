/- Merged out of this session's texts: Wf, Ry, Bk, Qx0, Qxedafa02, Qxf13, Qxf38, Wh, Wi, Wd, We, Qxf63, Qxf61, Qxf59, Qxf39, Wm, Wj -/
import Derived.Test.YtbodlnoipkommaaDoorZr2
import Derived.Test.YtbodlnoipkommaaDoorZr1
import Derived.WalkSmall
import Derived.Test.YtbodlnoipkommaaDoorRows
import Derived.Lib.LaidU8
import Derived.Lib.SmallJoins
import Derived.MakeChecks
import Derived.HandedShaped
import Derived.ChangeSame
import Derived.LaidMore
import Derived.Lay
import Derived.SevenTiedAt
import Derived.Stop.Joined
import Derived.Test.YtbodlnoipkommaaDoorTie
import Derived.Test.YtbodlnoipkommaaDoorCards
import Derived.WalkKit
import Derived.ProofKit
import Derived.OpenShut
import Derived.ShutString
import Derived.ChangeOld
import Derived.Below
import Derived.SizedLaws
import Derived.Test.YtbodlnoipkommaaDoorProg
import Derived.Deep.Draws
import Derived.Deep.AppendLies
import Derived.Maps.AppendAt
import Derived.OwnWalk
import Derived.Laws.BytesArg
import Derived.Laws.MakeOwn
import Derived.Laws.OwnMore
import Derived.Deep.OwnRows
import Derived.Tactics
import Derived.Lib.ConvBytes
import Derived.Laws.Slices
import Derived.KernelRfl
import Derived.RowKit3
import Derived.Deep.LoopGhost
import Derived.Deep.QuietTactic
import Derived.BigQuiet
import Derived.WideLaws
import Derived.Deep.DeepCutAuto
import Derived.Deep.CutBlock
import Derived.Deep.RegionHeld3
import Derived.Laws.Rows
import Derived.Lib.AppendStr
import Derived.ArgAppend
import Derived.Laws.IdiomCopy
import Derived.OrdersHeld
import Derived.Laws.BitsLemmas
import Derived.RowKit
import Derived.LoopN
import Derived.Shelf.Spec.BitsCarry
import Derived.WalkSpells
import Derived.StillTactics
import Derived.Laws.Pointers
set_option linter.unusedVariables false
set_option linter.unusedSimpArgs false
namespace Go.Proofs.YtbodlnoipkommaaDoor.Wf
open Go.RowKit Go.Proofs.YtbodlnoipkommaaDoorW.PrintWords Go.Proofs.YtbodlnoipkommaaDoorW.PrintLast Go.Proofs.YtbodlnoipkommaaDoorW.PrintMore
structure VOK (w : World) : Prop where
  t0 : w.cell? ⟨0, 0, none⟩ = some (.int .u8 0)
  t1 : w.cell? ⟨0, 1, none⟩ = some (.int .u8 2)
  t2 : w.cell? ⟨0, 2, none⟩ = some (.int .u8 1)
  mx : ∃ m : Int, w.cell? ⟨3, 0, none⟩ = some (.int .i64 m)
  pw : Lib.TabIs Tryd.prog w "internal/strconv.uint64pow10" .u64 Lib.pow10Tab
theorem VOK.below {w w1 : World} (h : VOK w) (hb : Below w.heap.size w w1) : VOK w1 := by
  obtain ⟨m, hm⟩ := h.mx
  obtain ⟨g, hg, hB⟩ : ∃ g, Tryd.prog.globalNamed "internal/strconv.uint64pow10" = some g ∧ g < w.heap.size := by
    have := h.pw
    unfold Lib.TabIs World.var? at this
    cases hn : Tryd.prog.globalNamed "internal/strconv.uint64pow10" with
    | none => rw [hn] at this; cases this
    | some g =>
      refine ⟨g, rfl, ?_⟩
      rw [hn, Option.bind_some] at this
      cases hh : w.heap[g]? with
      | none => rw [hh] at this; cases this
      | some o =>
        apply Classical.byContradiction; intro hc
        rw [Array.getElem?_eq_none (by omega)] at hh
        cases hh
  exact ⟨pw_cell_below hb h.t0, pw_cell_below hb h.t1, pw_cell_below hb h.t2, ⟨m, pw_cell_below hb hm⟩, var?_below hb hg hB h.pw⟩
theorem VOK.drawn {w w1 : World} (h : VOK w) (hb : Drawn0 w w1) : VOK w1 := h.below hb.below
theorem ret_i64 {a b : Int} (h : a = b) : Ending.returned (.int .i64 a) = .returned (.int .i64 b) := by rw [h]
def strings_Compare.f (a0 a1 : ByteArray) : Option Int := some (Lib.compareBytes a0.data.toList a1.data.toList)
theorem strings_Compare.calls (a0 a1 : ByteArray) (r : Int) (w : World) (h : strings_Compare.f a0 a1 = some r) :
    Calls Tryd.prog 48 #[.string a0, .string a1] w fun e w' => e = .returned (.int .i64 r) ∧ Drawn0 w w' := by
  injection h with h
  refine (Tryd.strings_Compare a0 a1 w).mono ?_
  rintro e w' ⟨rfl, rfl⟩
  exact ⟨ret_i64 h, ⟨0, rfl⟩⟩
def strings_ReplaceAll.f (a0 a1 a2 : ByteArray) : Option ByteArray :=
  if a0.size < 4294967281 ∧ 1 ≤ a1.size ∧ a0.size + Lib.countB a0 a1 * a2.size ≤ 140737488355328 then some ⟨(Lib.replaceAll a0.data.toList a1.data.toList a2.data.toList).toArray⟩ else none
theorem strings_ReplaceAll.calls (a0 a1 a2 : ByteArray) (r : ByteArray) (w : World) (h : strings_ReplaceAll.f a0 a1 a2 = some r) (hg : VOK w) :
    Calls Tryd.prog 54 #[.string a0, .string a1, .string a2] w fun e w' => e = .returned (.string r) ∧ Below w.heap.size w w' := by
  unfold strings_ReplaceAll.f at h
  by_cases hc : a0.size < 4294967281 ∧ 1 ≤ a1.size ∧ a0.size + Lib.countB a0 a1 * a2.size ≤ 140737488355328
  · rw [if_pos hc] at h
    injection h with h
    subst h
    obtain ⟨m, hm⟩ := hg.mx
    exact Tryd.strings_ReplaceAll a0 a1 a2 m w hc.1 hm hc.2.1 hc.2.2
  · rw [if_neg hc] at h; cases h
end Go.Proofs.YtbodlnoipkommaaDoor.Wf
namespace Go.Proofs.YtbodlnoipkommaaDoor.Ry
open Go.ChangeShapes Go.WideShapes Go.ChangeAt Go.RowKit Go.Joins Go.Proofs.YtbodlnoipkommaaDoor.Wf
open Go.ChangeMaps (open_string shut_string)
theorem own : ownKnob Tryd.prog.godebug = none := by kernel_rfl
abbrev laidL : List (String × DataW Unit) := Rows.valueLogicRow.laid
set_option maxRecDepth 100000 in
theorem vok {W : World} (hL : laidMetH Tryd.prog laidL W) (hsh : W.ShapedOpen Tryd.prog) : VOK W := by
  rw [MakeChecks.laidMetH_plain _ _ _ (by kernel_rfl)] at hL
  have tr : Lib.TabIs Tryd.prog W "chancery/value.truths" .u8 [0, 2, 1] := by
    obtain ⟨g, t, cs, fuel, p, hg, ht, hv, hd⟩ := Lib.laidMet.reads hL (n := "chancery/value.truths") (d := Rows.laid_chancery_value_truths) (by simp [laidL, Rows.valueLogicRow])
    obtain rfl := Option.some.inj (hg.symm.trans (show Tryd.prog.globalNamed "chancery/value.truths" = some 0 by kernel_rfl))
    obtain rfl := Option.some.inj (ht.symm.trans (show (Tryd.prog.globals[0]?).map (·.type) = some 70 by kernel_rfl))
    unfold Lib.TabIs
    rw [hv, ← Lib.cells_of_tab (k := .u8) (zs := [0, 2, 1]) Tryd.underlying70 Tryd.underlying5 (by kernel_rfl) (by kernel_rfl) hd]
  have pw : Lib.TabIs Tryd.prog W "internal/strconv.uint64pow10" .u64 Lib.pow10Tab := by
    obtain ⟨g, t, cs, fuel, p, hg, ht, hv, hd⟩ := Lib.laidMet.reads hL (n := "internal/strconv.uint64pow10") (d := Rows.laid_internal_strconv_uint64pow10) (by simp [laidL, Rows.valueLogicRow])
    have hty : Tryd.prog.globals[g]?.map (·.type) = some 115 := by
      obtain rfl := Option.some.inj (hg.symm.trans (show Tryd.prog.globalNamed "internal/strconv.uint64pow10" = some 4 by kernel_rfl))
      kernel_rfl
    obtain rfl := Option.some.inj (ht.symm.trans hty)
    unfold Lib.TabIs
    rw [hv, ← Lib.cells_of_tab (k := .u64) (zs := Lib.pow10Tab) Tryd.underlying115 Tryd.underlying47 (by kernel_rfl) (by kernel_rfl) hd]
  have hz : Tryd.prog.globalNamed "chancery/value.truths" = some 0 := by kernel_rfl
  exact ⟨tr.cell hz 0 (by decide), tr.cell hz 1 (by decide), tr.cell hz 2 (by decide), Go.Proofs.cell_of_shapedOpen_int (zero := #[.int .i64 0]) (t := 3) hsh (of_decide_eq_true (by kernel_rfl)) (by kernel_rfl) rfl (by kernel_rfl) (by kernel_rfl) Tryd.underlying3, pw⟩
theorem wrap {os : Os} {H : Type} {enc : TypeId × Value → H} {f : FuncId} {fn : Func} {s : ChangeSpec} {conds : List PathCond} {laid : List (String × DataW Unit)} {C : Checked} (own : ownKnob C.prog.godebug = none) (started : os.Started) (noInit : C.prog.inits.idxOf? f = none) (hfn : C.prog.funcs[f]? = some fn)
    (witness : ∃ (w : World) (tape : Tape) (i : Input), w.os = os ∧ (w.forCall tape i).Shaped C.prog ∧ i.vars = [] ∧ Input.okWide C.prog (w.forCall tape i) .any w.heap.size f i ∧
      ((s.pre enc C.prog fn conds false (w.forCall tape i).memory i.args ∧ laidMetH C.prog laid (w.forCall tape i).memory) ∧ sizedMet enc C.prog fn (OpenSpec.ofChange s) false (w.forCall tape i).memory i.args) ∧ ({} : Assume).holds C.prog (lone (Frame.enter C.prog f i.args .normal) [] (w.forCall tape i)))
    (contract : ∀ (W : World) (base : Nat) (args : Array Value) (ds gs : List (DataW H)) (before : List MemPlace),
      (∀ (j : Nat) t v, fn.params[j]? = some t → args[j]? = some v → Value.okWide C.prog W .any base t v) →
      DataW.Whole enc C.prog fn.params.toList s.vars false W args.toList ds gs before →
      (DataW.weightsEach C.prog (fn.params.toList ++ s.plain.varTypes C.prog) (ds ++ gs)).all (· ≤ reachBytes) = true →
      laidMetH C.prog laid W → W.ShapedOpen C.prog →
      Calls C.prog f args W fun e W' => ∃ v, e = .returned v ∧ s.post enc C.prog fn false true false false W args v W') :
    ReturnsInHanded {} C os f .any (fun w args => (s.pre enc C.prog fn conds false w args ∧ laidMetH C.prog laid w) ∧ sizedMet enc C.prog fn (OpenSpec.ofChange s) false w args) (s.post enc C.prog fn false true false false) := by
  refine returnsInHanded_of_calls own started noInit witness ?_
  intro w tape i _ hsh _ hok hpre hholds
  obtain ⟨_, _, _, fn', hfn', _, _, _, _, hval⟩ := hok
  have e : fn' = fn := Option.some.inj (hfn'.symm.trans hfn)
  subst e
  obtain ⟨⟨⟨ds, gs, before, hw, hc⟩, hL⟩, hz⟩ := hpre
  have hw' := DataW.Whole.of_heap (w' := w.forCall tape i) (by rfl) hw
  have hL' : laidMetH C.prog laid (w.forCall tape i) := laidMetH.of_heap (by rfl) hL
  refine (contract (w.forCall tape i) w.heap.size i.args ds gs before hval hw' (hz.weights hw) hL' hsh).mono fun e W' ⟨v, he, hp⟩ => ?_
  subst he
  exact ChangeSpec.post_blind hp
set_option maxRecDepth 100000 in
theorem open_val {H : Type} {enc : TypeId × Value → H} {W : World} {r : Reach} {b0 base : Nat} {sp : Nat → Bool} {held : Bool} {v : Value} {d : DataW H} {p : List MemPlace} (hv : Value.okWide Tryd.prog W r b0 25 v) (h : DataW.Trod enc Tryd.prog W base sp held 25 v d p) :
    ∃ (k n : Int) (s : ByteArray), v = .agg #[.int .u8 k, .int .i64 n, .string s] ∧ d = .agg [.lit (.int .u8 k), .lit (.int .i64 n), .lit (.string s.data.toList)] ∧ p = [] ∧ (Lit.int .u8 k).wf = true ∧ (Lit.int .i64 n).wf = true ∧ s.size ≤ maxLen := by
  obtain ⟨v0, v1, v2, y0, y1, y2, n, rfl, rfl, rfl, h0, h1, h2⟩ := open_agg3 Tryd.underlying25 (by kernel_rfl) (by kernel_rfl) hv h
  obtain ⟨z0, e0, rfl, w0⟩ := DataW.trod_int Tryd.underlying23 h0
  obtain ⟨z1, e1, rfl, w1⟩ := DataW.trod_int Tryd.underlying2 h1
  obtain ⟨z2, e2, rfl, w2⟩ := DataW.trod_string Tryd.underlying9 h2
  injection e0 with e0
  injection e1 with e1
  injection e2 with e2
  subst e0 e1 e2
  exact ⟨z0, z1, z2, rfl, rfl, rfl, w0, w1, w2⟩
set_option maxRecDepth 100000 in
theorem shut_val {H : Type} {enc : TypeId × Value → H} {W : World} {base : Nat} {sp : Nat → Bool} {held : Bool} {k n : Int} {s : ByteArray} (w0 : (Lit.int .u8 k).wf = true) (w1 : (Lit.int .i64 n).wf = true) (w2 : s.size ≤ maxLen) :
    DataW.Trod enc Tryd.prog W base sp held 25 (.agg #[.int .u8 k, .int .i64 n, .string s]) (.agg [.lit (.int .u8 k), .lit (.int .i64 n), .lit (.string s.data.toList)]) [] :=
  shut_agg3 (y0 := (.lit (.int .u8 k), [])) (y1 := (.lit (.int .i64 n), [])) (y2 := (.lit (.string s.data.toList), [])) Tryd.underlying25 (by kernel_rfl) (by kernel_rfl)
    (field_of_Trod (shut_int Tryd.underlying23 w0) rfl) (field_of_Trod (shut_int Tryd.underlying2 w1) rfl) (field_of_Trod (shut_string Tryd.underlying9 w2) rfl)
end Go.Proofs.YtbodlnoipkommaaDoor.Ry
namespace Go.Proofs.YtbodlnoipkommaaDoorW.PrintWords
open Go.RowKit
def Gro (W W' : World) : Prop := ∀ (g : Nat) (o : Obj), W.heap[g]? = some o → W'.heap[g]? = some o
instance (W : World) : Nonempty (Gro W W) := ⟨fun _ _ h => h⟩
instance (W W' : World) (n : Nat) [h : Nonempty (Gro W W')] : Nonempty (Gro W (W'.drewN n)) := ⟨fun g o e => h.elim fun h => blk_drewN (h g o e) n⟩
instance (W W' : World) [h : Nonempty (Gro W W')] : Nonempty (Gro W W'.drew) := ⟨fun g o e => h.elim fun h => blk_drew (h g o e)⟩
instance (W W' : World) (x : Obj) [h : Nonempty (Gro W W')] : Nonempty (Gro W (W'.alloc x)) := ⟨fun g o e => h.elim fun h => blk_alloc (h g o e) x⟩
theorem bk {W W' : World} {g : Nat} {o : Obj} [h : Nonempty (Gro W W')] (e : W.heap[g]? = some o) : W'.heap[g]? = some o := h.elim fun h => h g o e
def Gbw (w W W' : World) : Prop := Below w.heap.size w W → Below w.heap.size w W'
instance (w W : World) : Nonempty (Gbw w W W) := ⟨fun h => h⟩
instance (w W W' : World) (n : Nat) [h : Nonempty (Gbw w W W')] : Nonempty (Gbw w W (W'.drewN n)) := ⟨fun e => h.elim fun h => pw_below_drewN (h e) n⟩
instance (w W W' : World) [h : Nonempty (Gbw w W W')] : Nonempty (Gbw w W W'.drew) := ⟨fun e => h.elim fun h => below_drew1 (h e)⟩
instance (w W W' : World) (x : Obj) [h : Nonempty (Gbw w W W')] : Nonempty (Gbw w W (W'.alloc x)) := ⟨fun e => h.elim fun h => below_alloc (h e) x⟩
theorem bw {w W W' : World} [h : Nonempty (Gbw w W W')] (e : Below w.heap.size w W) : Below w.heap.size w W' := h.elim fun h => h e
end Go.Proofs.YtbodlnoipkommaaDoorW.PrintWords
namespace Go.Proofs.YtbodlnoipkommaaDoor.Q
open Go.RowKit Go.Proofs.YtbodlnoipkommaaDoorW.PrintWords Go.Proofs.YtbodlnoipkommaaDoorW.PrintLast Go.Proofs.YtbodlnoipkommaaDoorW.PrintMore
attribute [local go_sem] max2_int min2_int max_two min_two max_three min_three max_four min_four   -- for this text's walks alone
set_option linter.unusedVariables false
set_option linter.unusedSimpArgs false
def errW : Option Int → Value
  | none => .nilIface
  | some c => .iface 0 (.int .i64 c)
theorem errW_none : errW none = .nilIface := rfl
theorem errW_some (c : Int) : errW (some c) = .iface 0 (.int .i64 c) := rfl
theorem info5 : (Tryd.prog.info? 5).map (fun i => (i.zero, i.size, i.bytes)) = some (some (.int .u8 0), 1, 1) := by kernel_rfl
structure S25 where
  f0 : Int
  f1 : Int
  f2 : ByteArray
def k25 : Kd S25 := Kd.iso (Kd.pair (Kd.int .u8) (Kd.pair (Kd.int .i64) Kd.string)) (fun x : S25 => (x.f0, x.f1, x.f2))
end Go.Proofs.YtbodlnoipkommaaDoor.Q
namespace Go.Proofs.YtbodlnoipkommaaDoor.Q
open Go.RowKit Go.Proofs.YtbodlnoipkommaaDoorW.PrintWords Go.Proofs.YtbodlnoipkommaaDoorW.PrintLast Go.Proofs.YtbodlnoipkommaaDoorW.PrintMore
attribute [local go_sem] max2_int min2_int max_two min_two max_three min_three max_four min_four   -- for this text's walks alone
set_option linter.unusedVariables false
set_option linter.unusedSimpArgs false
theorem eqA25 (d : Nat) (w : World) (x0 y0 : Int) (x1 y1 : Int) (x2 y2 : ByteArray) :
    (Op.equalIn (d + 2) 25 (.agg #[.int .u8 x0, .int .i64 x1, .string x2]) (.agg #[.int .u8 y0, .int .i64 y1, .string y2])).run Tryd.prog w = .ok (x0 == y0 && (x1 == y1 && (x2.toList == y2.toList))) w := by
  refine eqA_of Tryd.underlying25 (by kernel_rfl) ?_
  refine eqf_cons (by rfl) (by go_simp; rfl) (by go_simp; rfl) (by go_simp) ?_
  refine eqf_cons (by rfl) (by go_simp; rfl) (by go_simp; rfl) (by go_simp) ?_
  exact eqf_last (by rfl) (by go_simp; rfl) (by go_simp; rfl) (by go_simp)
end Go.Proofs.YtbodlnoipkommaaDoor.Q
namespace Go.Proofs.YtbodlnoipkommaaDoor.Q
open Go.RowKit Go.Proofs.YtbodlnoipkommaaDoorW.PrintWords Go.Proofs.YtbodlnoipkommaaDoorW.PrintLast Go.Proofs.YtbodlnoipkommaaDoorW.PrintMore
attribute [local go_sem] max2_int min2_int max_two min_two max_three min_three max_four min_four
set_option linter.unusedVariables false
set_option linter.unusedSimpArgs false
attribute [local go_sem high] eqA25
def value_Right.j0 : Nat → Int → Bool → Int → Int → ByteArray → Option (Bool)
 | 0, _, _, _, _, _ => none
 | k + 1, x4, x21, x111000, x111001, x111002 => if x21 = true then (some (x111002.toList == ([] : List UInt8))) else (if x4 = 4 then (if x111001 = 0 then (some (decide ((x111002.size : Int) ≤ 200))) else (some false)) else (if x4 = 5 then (if x111001 = 0 then (some (decide ((x111002.size : Int) ≤ 200))) else (some false)) else (some false)))
def value_Right.f (k : Nat) (a0_0 : Int) (a0_1 : Int) (a0_2 : ByteArray) : Option (Bool) := if a0_0 = 0 then (some (a0_0 == 0 && (a0_1 == 0 && (a0_2.toList == ([] : List UInt8))))) else (if a0_0 = 1 then (if a0_2.toList = ([] : List UInt8) then (some ((a0_1 / 2) == 0)) else (some false)) else (if a0_0 = 2 then (value_Right.j0 k a0_0 (a0_0 == 2) a0_0 a0_1 a0_2) else (value_Right.j0 k a0_0 (a0_0 == 3) a0_0 a0_1 a0_2)))
set_option maxHeartbeats 8000000 in
set_option maxRecDepth 100000 in
theorem value_Right.calls (k : Nat) (a0_0 : Int) (a0_1 : Int) (a0_2 : ByteArray) (r : Bool) (w : World) (h : value_Right.f k a0_0 a0_1 a0_2 = some r) :
  Calls Tryd.prog 13 #[.agg #[.int .u8 a0_0, .int .i64 a0_1, .string a0_2]] w fun e w' => e = .returned (.bool r) ∧ Below w.heap.size w w' := by
 have hu25 := Tryd.underlying25
 have HB := Aside0.mk (Below.refl w.heap.size w)
 have H : (if a0_0 = 0 then (some (a0_0 == 0 && (a0_1 == 0 && (a0_2.toList == ([] : List UInt8))))) else (if a0_0 = 1 then (if a0_2.toList = ([] : List UInt8) then (some ((a0_1 / 2) == 0)) else (some false)) else (if a0_0 = 2 then (value_Right.j0 k a0_0 (a0_0 == 2) a0_0 a0_1 a0_2) else (value_Right.j0 k a0_0 (a0_0 == 3) a0_0 a0_1 a0_2)))) = some r := h
 clear h
 by_cases c2 : a0_0 = 0
 ·rw [if_pos c2] at H
  have c2b0 : (a0_0 == 0) = true := beq_iff_eq.mpr c2
  have c2b1 : (a0_0 != 0) = false := bne_eq_false_iff_eq.mpr c2
  clear c2
  obtain rfl := Option.some.inj H
  go_enter Tryd.func13, Tryd.ntmps13
  go_wp2_with (first | ((with_reducible refine gate_dst (N := 1) rfl ?_); (try (refine gate_guard (by rfl) ?_; dsimp only)); refine box_event ?hg (N := 1) ?hd (cs := #[.int .u8 a0_0, .int .i64 a0_1, .string a0_2]) (t := 25) ?hr ?_; (case hd => rfl); (case hg => rfl); (case hr => first | (go_simp; done) | (go_simp; rfl)); intro gb110 hg w3 hbox hb; have n0_ := Aside0.mk (below_step (bw HB.out) hb); have n1_ := Aside0.mk (hbox); have n2_ := Aside0.mk ((by rw [hg]; exact (below_size (bw HB.out)) : w.heap.size ≤ gb110)); have n3_ := Aside0.mk ((by rw [hg]; exact (below_size (bw HB.out)) : w.heap.size ≤ gb110)); clear HB; have HB := n0_; have BK110 := n1_; have GW110 := n2_; have GE110 := n3_; clear n0_ n1_ n2_ n3_; clear hb hbox hg; have hcz4_0 : w3.cell? ⟨gb110, 0, none⟩ = some (.int .u8 a0_0) := (blk_cell BK110.out 0).trans rfl; have hcz4_1 : w3.cell? ⟨gb110, 1, none⟩ = some (.int .i64 a0_1) := (blk_cell BK110.out 1).trans rfl; have hcz4_2 : w3.cell? ⟨gb110, 2, none⟩ = some (.string a0_2) := (blk_cell BK110.out 2).trans rfl; have hfz4_0 := blk_frozen BK110.out 0; have hfz4_1 := blk_frozen BK110.out 1; have hfz4_2 := blk_frozen BK110.out 2))
  go_ret
  exact ⟨by first | rfl | (simp [errW_none, errW_some] <;> rfl) | (simp [*, errW_none, errW_some] <;> rfl), by repeat (first | (with_reducible first | exact HB.out | apply below_alloc | apply pw_below_drewN | apply below_drew1 | refine below_set ?_ GE110.out) | exact HB.out)⟩
 ·rw [if_neg c2] at H
  have c2b0 : (a0_0 == 0) = false := beq_eq_false_iff_ne.mpr c2
  have c2b1 : (a0_0 != 0) = true := bne_iff_ne.mpr c2
  by_cases c5 : a0_0 = 1
  ·rw [if_pos c5] at H
   have c5b0 : (a0_0 == 1) = true := beq_iff_eq.mpr c5
   have c5b1 : (a0_0 != 1) = false := bne_eq_false_iff_eq.mpr c5
   clear c5
   by_cases c6 : a0_2.toList = ([] : List UInt8)
   ·rw [if_pos c6] at H
    have c6b0 : (a0_2.toList == ([] : List UInt8)) = true := beq_iff_eq.mpr c6
    have c6b1 : (a0_2.toList != ([] : List UInt8)) = false := bne_eq_false_iff_eq.mpr c6
    clear c6
    obtain rfl := Option.some.inj H
    go_enter Tryd.func13, Tryd.ntmps13
    go_wp2_with (first | ((with_reducible refine gate_dst (N := 1) rfl ?_); (try (refine gate_guard (by rfl) ?_; dsimp only)); refine box_event ?hg (N := 1) ?hd (cs := #[.int .u8 a0_0, .int .i64 a0_1, .string a0_2]) (t := 25) ?hr ?_; (case hd => rfl); (case hg => rfl); (case hr => first | (go_simp; done) | (go_simp; rfl)); intro gb110 hg w7 hbox hb; have n0_ := Aside0.mk (below_step (bw HB.out) hb); have n1_ := Aside0.mk (hbox); have n2_ := Aside0.mk ((by rw [hg]; exact (below_size (bw HB.out)) : w.heap.size ≤ gb110)); have n3_ := Aside0.mk ((by rw [hg]; exact (below_size (bw HB.out)) : w.heap.size ≤ gb110)); clear HB; have HB := n0_; have BK110 := n1_; have GW110 := n2_; have GE110 := n3_; clear n0_ n1_ n2_ n3_; clear hb hbox hg; have hcz8_0 : w7.cell? ⟨gb110, 0, none⟩ = some (.int .u8 a0_0) := (blk_cell BK110.out 0).trans rfl; have hcz8_1 : w7.cell? ⟨gb110, 1, none⟩ = some (.int .i64 a0_1) := (blk_cell BK110.out 1).trans rfl; have hcz8_2 : w7.cell? ⟨gb110, 2, none⟩ = some (.string a0_2) := (blk_cell BK110.out 2).trans rfl; have hfz8_0 := blk_frozen BK110.out 0; have hfz8_1 := blk_frozen BK110.out 1; have hfz8_2 := blk_frozen BK110.out 2))
    go_ret
    exact ⟨by first | rfl | (simp [errW_none, errW_some] <;> rfl) | (simp [*, errW_none, errW_some] <;> rfl), by repeat (first | (with_reducible first | exact HB.out | apply below_alloc | apply pw_below_drewN | apply below_drew1 | refine below_set ?_ GE110.out) | exact HB.out)⟩
   ·rw [if_neg c6] at H
    have c6b0 : (a0_2.toList == ([] : List UInt8)) = false := beq_eq_false_iff_ne.mpr c6
    have c6b1 : (a0_2.toList != ([] : List UInt8)) = true := bne_iff_ne.mpr c6
    obtain rfl := Option.some.inj H
    go_enter Tryd.func13, Tryd.ntmps13
    go_wp2_with (first | ((with_reducible refine gate_dst (N := 1) rfl ?_); (try (refine gate_guard (by rfl) ?_; dsimp only)); refine box_event ?hg (N := 1) ?hd (cs := #[.int .u8 a0_0, .int .i64 a0_1, .string a0_2]) (t := 25) ?hr ?_; (case hd => rfl); (case hg => rfl); (case hr => first | (go_simp; done) | (go_simp; rfl)); intro gb110 hg w9 hbox hb; have n0_ := Aside0.mk (below_step (bw HB.out) hb); have n1_ := Aside0.mk (hbox); have n2_ := Aside0.mk ((by rw [hg]; exact (below_size (bw HB.out)) : w.heap.size ≤ gb110)); have n3_ := Aside0.mk ((by rw [hg]; exact (below_size (bw HB.out)) : w.heap.size ≤ gb110)); clear HB; have HB := n0_; have BK110 := n1_; have GW110 := n2_; have GE110 := n3_; clear n0_ n1_ n2_ n3_; clear hb hbox hg; have hcz10_0 : w9.cell? ⟨gb110, 0, none⟩ = some (.int .u8 a0_0) := (blk_cell BK110.out 0).trans rfl; have hcz10_1 : w9.cell? ⟨gb110, 1, none⟩ = some (.int .i64 a0_1) := (blk_cell BK110.out 1).trans rfl; have hcz10_2 : w9.cell? ⟨gb110, 2, none⟩ = some (.string a0_2) := (blk_cell BK110.out 2).trans rfl; have hfz10_0 := blk_frozen BK110.out 0; have hfz10_1 := blk_frozen BK110.out 1; have hfz10_2 := blk_frozen BK110.out 2))
    go_ret
    exact ⟨by first | rfl | (simp [errW_none, errW_some] <;> rfl) | (simp [*, errW_none, errW_some] <;> rfl), by repeat (first | (with_reducible first | exact HB.out | apply below_alloc | apply pw_below_drewN | apply below_drew1 | refine below_set ?_ GE110.out) | exact HB.out)⟩
  ·rw [if_neg c5] at H
   have c5b0 : (a0_0 == 1) = false := beq_eq_false_iff_ne.mpr c5
   have c5b1 : (a0_0 != 1) = true := bne_iff_ne.mpr c5
   have HC11 := Aside0.mk H
   clear H
   go_enter Tryd.func13, Tryd.ntmps13
   go_upto_if 21 with (first | ((with_reducible refine gate_dst (N := 1) rfl ?_); (try (refine gate_guard (by rfl) ?_; dsimp only)); refine box_event ?hg (N := 1) ?hd (cs := #[.int .u8 a0_0, .int .i64 a0_1, .string a0_2]) (t := 25) ?hr ?_; (case hd => rfl); (case hg => rfl); (case hr => first | (go_simp; done) | (go_simp; rfl)); intro gb110 hg w12 hbox hb; have n0_ := Aside0.mk (below_step (bw HB.out) hb); have n1_ := Aside0.mk (hbox); have n2_ := Aside0.mk ((by rw [hg]; exact (below_size (bw HB.out)) : w.heap.size ≤ gb110)); have n3_ := Aside0.mk ((by rw [hg]; exact (below_size (bw HB.out)) : w.heap.size ≤ gb110)); clear HB; have HB := n0_; have BK110 := n1_; have GW110 := n2_; have GE110 := n3_; clear n0_ n1_ n2_ n3_; clear hb hbox hg; have hcz13_0 : w12.cell? ⟨gb110, 0, none⟩ = some (.int .u8 a0_0) := (blk_cell BK110.out 0).trans rfl; have hcz13_1 : w12.cell? ⟨gb110, 1, none⟩ = some (.int .i64 a0_1) := (blk_cell BK110.out 1).trans rfl; have hcz13_2 : w12.cell? ⟨gb110, 2, none⟩ = some (.string a0_2) := (blk_cell BK110.out 2).trans rfl; have hfz13_0 := blk_frozen BK110.out 0; have hfz13_1 := blk_frozen BK110.out 1; have hfz13_2 := blk_frozen BK110.out 2))
   (try simp only [Act.put, List.setIfInBounds_toArray, List.set_cons_zero, List.set_cons_succ])
   go_cut [21] (fun v21 wc => ∃ (kq : Nat) (x21_10 : Bool), v21 = .bool x21_10 ∧ Aside0 (value_Right.j0 kq a0_0 x21_10 a0_0 a0_1 a0_2 = some r) ∧ Aside0 (kq ≤ k) ∧ Aside0 (wc.heap[gb110]? = some (.cells #[.int .u8 a0_0, .int .i64 a0_1, .string a0_2] 25 (0, 0))) ∧ Aside0 (Below w.heap.size w wc))
   case first =>
    have H := HC11.out
    clear HC11
    by_cases c14 : a0_0 = 2
    ·rw [if_pos c14] at H
     have c14b0 : (a0_0 == 2) = true := beq_iff_eq.mpr c14
     have c14b1 : (a0_0 != 2) = false := bne_eq_false_iff_eq.mpr c14
     clear c14
     (first | rw [c14b0] | (simp only [i64_w, i32_w]; rw [c14b0]) | skip)
     have H' := Aside0.mk H
     clear H
     go_wp2
     go_meet
     case rel => exact ⟨_, ((a0_0 == 2)), (by first | rfl | (simp; done) | (simp [*]; done)), H', ⟨by first | omega | exact Nat.le_refl _⟩, ⟨bk BK110.out⟩, ⟨by repeat (first | (with_reducible first | exact HB.out | apply below_alloc | apply pw_below_drewN | apply below_drew1 | refine below_set ?_ GE110.out) | exact HB.out)⟩⟩
    ·rw [if_neg c14] at H
     have c14b0 : (a0_0 == 2) = false := beq_eq_false_iff_ne.mpr c14
     have c14b1 : (a0_0 != 2) = true := bne_iff_ne.mpr c14
     (first | rw [c14b0] | (simp only [i64_w, i32_w]; rw [c14b0]) | skip)
     have H' := Aside0.mk H
     clear H
     go_wp2
     go_meet
     case rel => exact ⟨_, ((a0_0 == 3)), (by first | rfl | (simp; done) | (simp [*]; done)), H', ⟨by first | omega | exact Nat.le_refl _⟩, ⟨bk BK110.out⟩, ⟨by repeat (first | (with_reducible first | exact HB.out | apply below_alloc | apply pw_below_drewN | apply below_drew1 | refine below_set ?_ GE110.out) | exact HB.out)⟩⟩
   case rest =>
    clear HC11
    try clear c1
    try clear c2
    try clear c2b0
    try clear c2b1
    try clear p2
    try clear c5
    try clear c5b0
    try clear c5b1
    try clear c6
    try clear c6b0
    try clear c6b1
    try clear c13
    try clear c14
    try clear c14b0
    try clear c14b1
    try clear hcz10_0
    try clear hcz10_1
    try clear hcz10_2
    try clear hcz13_0
    try clear hcz13_1
    try clear hcz13_2
    try clear hcz4_0
    try clear hcz4_1
    try clear hcz4_2
    try clear hcz8_0
    try clear hcz8_1
    try clear hcz8_2
    try clear hfz10_0
    try clear hfz10_1
    try clear hfz10_2
    try clear hfz13_0
    try clear hfz13_1
    try clear hfz13_2
    try clear hfz4_0
    try clear hfz4_1
    try clear hfz4_2
    try clear hfz8_0
    try clear hfz8_1
    try clear hfz8_2
    obtain ⟨kq, x21_10, rfl, HA, HJ10, BK110, HB⟩ := hcut
    cases kq with
    | zero => exact absurd HA.out (by simp [value_Right.j0])
    | succ kj10 =>
     have H := HA.out
     clear HA
     simp only [value_Right.j0] at H
     by_cases c15 : x21_10 = true
     ·subst c15
      have H1 : (some (a0_2.toList == ([] : List UInt8))) = some r := by rw [if_pos rfl] at H; exact H
      clear H
      have H := H1
      clear H1
      obtain rfl := Option.some.inj H
      have hcz16_0 : wc.cell? ⟨gb110, 0, none⟩ = some (.int .u8 a0_0) := (blk_cell BK110.out 0).trans rfl
      have hcz16_1 : wc.cell? ⟨gb110, 1, none⟩ = some (.int .i64 a0_1) := (blk_cell BK110.out 1).trans rfl
      have hcz16_2 : wc.cell? ⟨gb110, 2, none⟩ = some (.string a0_2) := (blk_cell BK110.out 2).trans rfl
      have hfz16_0 := blk_frozen BK110.out 0
      have hfz16_1 := blk_frozen BK110.out 1
      have hfz16_2 := blk_frozen BK110.out 2
      go_wp2
      go_ret
      exact ⟨by first | rfl | (simp [errW_none, errW_some] <;> rfl) | (simp [*, errW_none, errW_some] <;> rfl), by repeat (first | (with_reducible first | exact HB.out | apply below_alloc | apply pw_below_drewN | apply below_drew1 | refine below_set ?_ GE110.out) | exact HB.out)⟩
     ·replace c15 := Bool.eq_false_iff.mpr c15
      subst c15
      have H1 : (if a0_0 = 4 then (if a0_1 = 0 then (some (decide ((a0_2.size : Int) ≤ 200))) else (some false)) else (if a0_0 = 5 then (if a0_1 = 0 then (some (decide ((a0_2.size : Int) ≤ 200))) else (some false)) else (some false))) = some r := by rw [if_neg (show ¬ (false = true) by decide)] at H; exact H
      clear H
      have H := H1
      clear H1
      by_cases c17 : a0_0 = 4
      ·rw [if_pos c17] at H
       have c17b0 : (a0_0 == 4) = true := beq_iff_eq.mpr c17
       have c17b1 : (a0_0 != 4) = false := bne_eq_false_iff_eq.mpr c17
       clear c17
       by_cases c18 : a0_1 = 0
       ·rw [if_pos c18] at H
        have c18b0 : (a0_1 == 0) = true := beq_iff_eq.mpr c18
        have c18b1 : (a0_1 != 0) = false := bne_eq_false_iff_eq.mpr c18
        clear c18
        obtain rfl := Option.some.inj H
        have hcz19_0 : wc.cell? ⟨gb110, 0, none⟩ = some (.int .u8 a0_0) := (blk_cell BK110.out 0).trans rfl
        have hcz19_1 : wc.cell? ⟨gb110, 1, none⟩ = some (.int .i64 a0_1) := (blk_cell BK110.out 1).trans rfl
        have hcz19_2 : wc.cell? ⟨gb110, 2, none⟩ = some (.string a0_2) := (blk_cell BK110.out 2).trans rfl
        have hfz19_0 := blk_frozen BK110.out 0
        have hfz19_1 := blk_frozen BK110.out 1
        have hfz19_2 := blk_frozen BK110.out 2
        go_wp2
        go_ret
        exact ⟨by first | rfl | (simp [errW_none, errW_some] <;> rfl) | (simp [*, errW_none, errW_some] <;> rfl), by repeat (first | (with_reducible first | exact HB.out | apply below_alloc | apply pw_below_drewN | apply below_drew1 | refine below_set ?_ GE110.out) | exact HB.out)⟩
       ·rw [if_neg c18] at H
        have c18b0 : (a0_1 == 0) = false := beq_eq_false_iff_ne.mpr c18
        have c18b1 : (a0_1 != 0) = true := bne_iff_ne.mpr c18
        obtain rfl := Option.some.inj H
        have hcz20_0 : wc.cell? ⟨gb110, 0, none⟩ = some (.int .u8 a0_0) := (blk_cell BK110.out 0).trans rfl
        have hcz20_1 : wc.cell? ⟨gb110, 1, none⟩ = some (.int .i64 a0_1) := (blk_cell BK110.out 1).trans rfl
        have hcz20_2 : wc.cell? ⟨gb110, 2, none⟩ = some (.string a0_2) := (blk_cell BK110.out 2).trans rfl
        have hfz20_0 := blk_frozen BK110.out 0
        have hfz20_1 := blk_frozen BK110.out 1
        have hfz20_2 := blk_frozen BK110.out 2
        go_wp2
        go_ret
        exact ⟨by first | rfl | (simp [errW_none, errW_some] <;> rfl) | (simp [*, errW_none, errW_some] <;> rfl), by repeat (first | (with_reducible first | exact HB.out | apply below_alloc | apply pw_below_drewN | apply below_drew1 | refine below_set ?_ GE110.out) | exact HB.out)⟩
      ·rw [if_neg c17] at H
       have c17b0 : (a0_0 == 4) = false := beq_eq_false_iff_ne.mpr c17
       have c17b1 : (a0_0 != 4) = true := bne_iff_ne.mpr c17
       by_cases c21 : a0_0 = 5
       ·rw [if_pos c21] at H
        have c21b0 : (a0_0 == 5) = true := beq_iff_eq.mpr c21
        have c21b1 : (a0_0 != 5) = false := bne_eq_false_iff_eq.mpr c21
        clear c21
        by_cases c22 : a0_1 = 0
        ·rw [if_pos c22] at H
         have c22b0 : (a0_1 == 0) = true := beq_iff_eq.mpr c22
         have c22b1 : (a0_1 != 0) = false := bne_eq_false_iff_eq.mpr c22
         clear c22
         obtain rfl := Option.some.inj H
         have hcz23_0 : wc.cell? ⟨gb110, 0, none⟩ = some (.int .u8 a0_0) := (blk_cell BK110.out 0).trans rfl
         have hcz23_1 : wc.cell? ⟨gb110, 1, none⟩ = some (.int .i64 a0_1) := (blk_cell BK110.out 1).trans rfl
         have hcz23_2 : wc.cell? ⟨gb110, 2, none⟩ = some (.string a0_2) := (blk_cell BK110.out 2).trans rfl
         have hfz23_0 := blk_frozen BK110.out 0
         have hfz23_1 := blk_frozen BK110.out 1
         have hfz23_2 := blk_frozen BK110.out 2
         go_wp2
         go_ret
         exact ⟨by first | rfl | (simp [errW_none, errW_some] <;> rfl) | (simp [*, errW_none, errW_some] <;> rfl), by repeat (first | (with_reducible first | exact HB.out | apply below_alloc | apply pw_below_drewN | apply below_drew1 | refine below_set ?_ GE110.out) | exact HB.out)⟩
        ·rw [if_neg c22] at H
         have c22b0 : (a0_1 == 0) = false := beq_eq_false_iff_ne.mpr c22
         have c22b1 : (a0_1 != 0) = true := bne_iff_ne.mpr c22
         obtain rfl := Option.some.inj H
         have hcz24_0 : wc.cell? ⟨gb110, 0, none⟩ = some (.int .u8 a0_0) := (blk_cell BK110.out 0).trans rfl
         have hcz24_1 : wc.cell? ⟨gb110, 1, none⟩ = some (.int .i64 a0_1) := (blk_cell BK110.out 1).trans rfl
         have hcz24_2 : wc.cell? ⟨gb110, 2, none⟩ = some (.string a0_2) := (blk_cell BK110.out 2).trans rfl
         have hfz24_0 := blk_frozen BK110.out 0
         have hfz24_1 := blk_frozen BK110.out 1
         have hfz24_2 := blk_frozen BK110.out 2
         go_wp2
         go_ret
         exact ⟨by first | rfl | (simp [errW_none, errW_some] <;> rfl) | (simp [*, errW_none, errW_some] <;> rfl), by repeat (first | (with_reducible first | exact HB.out | apply below_alloc | apply pw_below_drewN | apply below_drew1 | refine below_set ?_ GE110.out) | exact HB.out)⟩
       ·rw [if_neg c21] at H
        have c21b0 : (a0_0 == 5) = false := beq_eq_false_iff_ne.mpr c21
        have c21b1 : (a0_0 != 5) = true := bne_iff_ne.mpr c21
        obtain rfl := Option.some.inj H
        go_wp2
        go_ret
        exact ⟨by first | rfl | (simp [errW_none, errW_some] <;> rfl) | (simp [*, errW_none, errW_some] <;> rfl), by repeat (first | (with_reducible first | exact HB.out | apply below_alloc | apply pw_below_drewN | apply below_drew1 | refine below_set ?_ GE110.out) | exact HB.out)⟩
end Go.Proofs.YtbodlnoipkommaaDoor.Q
namespace Go.Proofs.YtbodlnoipkommaaDoor.Q
open Go.RowKit Go.Proofs.YtbodlnoipkommaaDoorW.PrintWords Go.Proofs.YtbodlnoipkommaaDoorW.PrintLast Go.Proofs.YtbodlnoipkommaaDoorW.PrintMore
attribute [local go_sem] max2_int min2_int max_two min_two max_three min_three max_four min_four
set_option linter.unusedVariables false
set_option linter.unusedSimpArgs false
def value_number.f (a0_0 : Int) (a0_1 : Int) (a0_2 : ByteArray) : Option (Bool) := if a0_0 = 2 then (some true) else (some (a0_0 == 3))
set_option maxHeartbeats 8000000 in
set_option maxRecDepth 100000 in
theorem value_number.calls (a0_0 : Int) (a0_1 : Int) (a0_2 : ByteArray) (r : Bool) (w : World) (h : value_number.f a0_0 a0_1 a0_2 = some r) :
  Calls Tryd.prog 38 #[.agg #[.int .u8 a0_0, .int .i64 a0_1, .string a0_2]] w fun e w' => e = .returned (.bool r) ∧ Below w.heap.size w w' := by
 have hu25 := Tryd.underlying25
 have HB := Aside0.mk (Below.refl w.heap.size w)
 have H : (if a0_0 = 2 then (some true) else (some (a0_0 == 3))) = some r := h
 clear h
 by_cases c2 : a0_0 = 2
 ·rw [if_pos c2] at H
  have c2b0 : (a0_0 == 2) = true := beq_iff_eq.mpr c2
  have c2b1 : (a0_0 != 2) = false := bne_eq_false_iff_eq.mpr c2
  clear c2
  obtain rfl := Option.some.inj H
  go_enter Tryd.func38, Tryd.ntmps38
  go_wp2_with (first | ((with_reducible refine gate_dst (N := 1) rfl ?_); refine box_event ?hg (N := 1) ?hd (cs := #[.int .u8 a0_0, .int .i64 a0_1, .string a0_2]) (t := 25) ?hr ?_; (case hd => rfl); (case hg => rfl); (case hr => first | (go_simp; done) | (go_simp; rfl)); intro gb111 hg w3 hbox hb; have n0_ := Aside0.mk (below_step (bw HB.out) hb); have n1_ := Aside0.mk (hbox); have n2_ := Aside0.mk ((by rw [hg]; exact (below_size (bw HB.out)) : w.heap.size ≤ gb111)); have n3_ := Aside0.mk ((by rw [hg]; exact (below_size (bw HB.out)) : w.heap.size ≤ gb111)); clear HB; have HB := n0_; have BK111 := n1_; have GW111 := n2_; have GE111 := n3_; clear n0_ n1_ n2_ n3_; clear hb hbox hg; have hcz4_0 : w3.cell? ⟨gb111, 0, none⟩ = some (.int .u8 a0_0) := (blk_cell BK111.out 0).trans rfl; have hcz4_1 : w3.cell? ⟨gb111, 1, none⟩ = some (.int .i64 a0_1) := (blk_cell BK111.out 1).trans rfl; have hcz4_2 : w3.cell? ⟨gb111, 2, none⟩ = some (.string a0_2) := (blk_cell BK111.out 2).trans rfl; have hfz4_0 := blk_frozen BK111.out 0; have hfz4_1 := blk_frozen BK111.out 1; have hfz4_2 := blk_frozen BK111.out 2))
  go_ret
  exact ⟨by first | rfl | (simp [errW_none, errW_some] <;> rfl) | (simp [*, errW_none, errW_some] <;> rfl), by repeat (first | (with_reducible first | exact HB.out | apply below_alloc | apply pw_below_drewN | apply below_drew1 | refine below_set ?_ GE111.out) | exact HB.out)⟩
 ·rw [if_neg c2] at H
  have c2b0 : (a0_0 == 2) = false := beq_eq_false_iff_ne.mpr c2
  have c2b1 : (a0_0 != 2) = true := bne_iff_ne.mpr c2
  obtain rfl := Option.some.inj H
  go_enter Tryd.func38, Tryd.ntmps38
  go_wp2_with (first | ((with_reducible refine gate_dst (N := 1) rfl ?_); refine box_event ?hg (N := 1) ?hd (cs := #[.int .u8 a0_0, .int .i64 a0_1, .string a0_2]) (t := 25) ?hr ?_; (case hd => rfl); (case hg => rfl); (case hr => first | (go_simp; done) | (go_simp; rfl)); intro gb111 hg w5 hbox hb; have n0_ := Aside0.mk (below_step (bw HB.out) hb); have n1_ := Aside0.mk (hbox); have n2_ := Aside0.mk ((by rw [hg]; exact (below_size (bw HB.out)) : w.heap.size ≤ gb111)); have n3_ := Aside0.mk ((by rw [hg]; exact (below_size (bw HB.out)) : w.heap.size ≤ gb111)); clear HB; have HB := n0_; have BK111 := n1_; have GW111 := n2_; have GE111 := n3_; clear n0_ n1_ n2_ n3_; clear hb hbox hg; have hcz6_0 : w5.cell? ⟨gb111, 0, none⟩ = some (.int .u8 a0_0) := (blk_cell BK111.out 0).trans rfl; have hcz6_1 : w5.cell? ⟨gb111, 1, none⟩ = some (.int .i64 a0_1) := (blk_cell BK111.out 1).trans rfl; have hcz6_2 : w5.cell? ⟨gb111, 2, none⟩ = some (.string a0_2) := (blk_cell BK111.out 2).trans rfl; have hfz6_0 := blk_frozen BK111.out 0; have hfz6_1 := blk_frozen BK111.out 1; have hfz6_2 := blk_frozen BK111.out 2))
  go_ret
  exact ⟨by first | rfl | (simp [errW_none, errW_some] <;> rfl) | (simp [*, errW_none, errW_some] <;> rfl), by repeat (first | (with_reducible first | exact HB.out | apply below_alloc | apply pw_below_drewN | apply below_drew1 | refine below_set ?_ GE111.out) | exact HB.out)⟩
end Go.Proofs.YtbodlnoipkommaaDoor.Q
namespace Go.Proofs.YtbodlnoipkommaaDoor.Wh
open Go.RowKit Go.Proofs.YtbodlnoipkommaaDoor.Q Go.Proofs.YtbodlnoipkommaaDoorW.PrintWords Go.Proofs.YtbodlnoipkommaaDoorW.PrintLast Go.Proofs.YtbodlnoipkommaaDoorW.PrintMore
def rightB (k n : Int) (s : ByteArray) : Bool :=
  if k = 0 then (n == 0 && (s.toList == ([] : List UInt8))) else
  if k = 1 then (s.toList == ([] : List UInt8)) && (n / 2 == 0) else
  if k = 2 ∨ k = 3 then (s.toList == ([] : List UInt8)) else
  if k = 4 ∨ k = 5 then (n == 0) && decide ((s.size : Int) ≤ 200) else false
theorem right_f (j : Nat) (k n : Int) (s : ByteArray) : value_Right.f (j + 1) k n s = some (rightB k n s) := by
  unfold value_Right.f rightB
  by_cases h0 : k = 0
  · simp [h0]
  by_cases h1 : k = 1
  · by_cases hs : s.toList = ([] : List UInt8) <;> simp [h1, hs]
  by_cases h2 : k = 2
  · simp [h2, value_Right.j0]
  by_cases h3 : k = 3
  · simp [h3, value_Right.j0]
  by_cases h4 : k = 4
  · by_cases hn : n = 0 <;> simp [h4, hn, value_Right.j0]
  by_cases h5 : k = 5
  · by_cases hn : n = 0 <;> simp [h5, hn, value_Right.j0]
  simp [h0, h1, h2, h3, h4, h5, value_Right.j0]
def numB (k : Int) : Bool := k == 2 || k == 3
theorem number_f (k n : Int) (s : ByteArray) : value_number.f k n s = some (numB k) := by
  unfold value_number.f numB
  by_cases h : k = 2 <;> simp [h]
def badB (k : Int) : Bool := !(k == 0) && !numB k
def askedR (k0 n0 : Int) (s0 : ByteArray) (k1 n1 : Int) (s1 : ByteArray) : Bool × Int :=
  if (!rightB k0 n0 s0 || !rightB k1 n1 s1) = true then (false, 2) else if (badB k0 || badB k1) = true then (false, 270) else (k0 == 0 || k1 == 0, 0)
end Go.Proofs.YtbodlnoipkommaaDoor.Wh
namespace Go.Proofs.YtbodlnoipkommaaDoor.Wi
open Go.RowKit Go.Proofs.YtbodlnoipkommaaDoor.Q Go.Proofs.YtbodlnoipkommaaDoor.Wh Go.Proofs.YtbodlnoipkommaaDoorW.PrintWords Go.Proofs.YtbodlnoipkommaaDoorW.PrintLast Go.Proofs.YtbodlnoipkommaaDoorW.PrintMore
theorem bcell {W w1 : World} (hb : Below W.heap.size W w1) : (∀ b o, b < W.heap.size → w1.cell? ⟨b, o, none⟩ = W.cell? ⟨b, o, none⟩) ∧ (∀ b o, b < W.heap.size → w1.frozen? ⟨b, o, none⟩ = W.frozen? ⟨b, o, none⟩) :=
  ⟨fun b o h => hb.cell (p := ⟨b, o, none⟩) h, fun b o h => hb.frozen (p := ⟨b, o, none⟩) h⟩
set_option maxRecDepth 100000 in
set_option maxHeartbeats 1000000 in
theorem wrong0 (k0 n0 : Int) (s0 : ByteArray) (k1 n1 : Int) (s1 : ByteArray) (w : World) (hr : rightB k0 n0 s0 = false) :
    Calls Tryd.prog 58 #[.agg #[.int .u8 k0, .int .i64 n0, .string s0], .agg #[.int .u8 k1, .int .i64 n1, .string s1]] w fun e w' => e = .returned (.tuple #[.bool false, .int .i64 2]) ∧ Below w.heap.size w w' := by
  have N := Aside0.mk (value_Right.calls 1 k0 n0 s0 (rightB k0 n0 s0) · (right_f 0 k0 n0 s0))
  rw [hr] at N
  clear hr
  go_enter Tryd.func58, Tryd.ntmps58
  go_wp2_with fail
  refine (N.out _).mono ?_
  rintro e w1 ⟨rfl, hb1⟩
  obtain ⟨c1, f1⟩ := bcell hb1
  have c10 := fun o => c1 (w.heap.size) o (by first | (simp; done) | (simp; omega) | omega)
  have f10 := fun o => f1 (w.heap.size) o (by first | (simp; done) | (simp; omega) | omega)
  have c11 := fun o => c1 (w.heap.size + 1) o (by first | (simp; done) | (simp; omega) | omega)
  have f11 := fun o => f1 (w.heap.size + 1) o (by first | (simp; done) | (simp; omega) | omega)
  have l10 : w.heap.size < w1.heap.size := by
    have := hb1.size
    try simp at this
    omega
  have l11 : w.heap.size + 1 < w1.heap.size := by
    have := hb1.size
    try simp at this
    omega
  clear c1 f1
  replace hb1 := Aside0.mk hb1
  go_wp2_with fail
  go_ret2
  exact ⟨rfl, below_step (below_alloc (below_alloc (Below.refl _ _) _) _) hb1.out⟩
set_option maxRecDepth 100000 in
set_option maxHeartbeats 1000000 in
theorem wrong1 (k0 n0 : Int) (s0 : ByteArray) (k1 n1 : Int) (s1 : ByteArray) (w : World) (hr : rightB k0 n0 s0 = true) (hr1 : rightB k1 n1 s1 = false) :
    Calls Tryd.prog 58 #[.agg #[.int .u8 k0, .int .i64 n0, .string s0], .agg #[.int .u8 k1, .int .i64 n1, .string s1]] w fun e w' => e = .returned (.tuple #[.bool false, .int .i64 2]) ∧ Below w.heap.size w w' := by
  have N := Aside0.mk (value_Right.calls 1 k0 n0 s0 (rightB k0 n0 s0) · (right_f 0 k0 n0 s0))
  rw [hr] at N
  clear hr
  have M := Aside0.mk (value_Right.calls 1 k1 n1 s1 (rightB k1 n1 s1) · (right_f 0 k1 n1 s1))
  rw [hr1] at M
  clear hr1
  go_enter Tryd.func58, Tryd.ntmps58
  go_wp2_with fail
  refine (N.out _).mono ?_
  rintro e w1 ⟨rfl, hb1⟩
  obtain ⟨c1, f1⟩ := bcell hb1
  have c10 := fun o => c1 (w.heap.size) o (by first | (simp; done) | (simp; omega) | omega)
  have f10 := fun o => f1 (w.heap.size) o (by first | (simp; done) | (simp; omega) | omega)
  have c11 := fun o => c1 (w.heap.size + 1) o (by first | (simp; done) | (simp; omega) | omega)
  have f11 := fun o => f1 (w.heap.size + 1) o (by first | (simp; done) | (simp; omega) | omega)
  have l10 : w.heap.size < w1.heap.size := by
    have := hb1.size
    try simp at this
    omega
  have l11 : w.heap.size + 1 < w1.heap.size := by
    have := hb1.size
    try simp at this
    omega
  clear c1 f1
  replace hb1 := Aside0.mk hb1
  go_wp2_with fail
  refine (M.out _).mono ?_
  rintro e w2 ⟨rfl, hb2⟩
  obtain ⟨c2, f2⟩ := bcell hb2
  have c20 := fun o => c2 (w.heap.size) o (by first | (simp; done) | (simp; omega) | omega)
  have f20 := fun o => f2 (w.heap.size) o (by first | (simp; done) | (simp; omega) | omega)
  have c21 := fun o => c2 (w.heap.size + 1) o (by first | (simp; done) | (simp; omega) | omega)
  have f21 := fun o => f2 (w.heap.size + 1) o (by first | (simp; done) | (simp; omega) | omega)
  have l20 : w.heap.size < w2.heap.size := by
    have := hb2.size
    try simp at this
    omega
  have l21 : w.heap.size + 1 < w2.heap.size := by
    have := hb2.size
    try simp at this
    omega
  clear c2 f2
  replace hb2 := Aside0.mk hb2
  go_wp2_with fail
  go_ret2
  exact ⟨rfl, below_step (below_step (below_alloc (below_alloc (Below.refl _ _) _) _) hb1.out) hb2.out⟩
set_option maxRecDepth 100000 in
set_option maxHeartbeats 1000000 in
theorem a_null_null (n0 : Int) (s0 : ByteArray) (n1 : Int) (s1 : ByteArray) (w : World) (hr : rightB 0 n0 s0 = true) (hr1 : rightB 0 n1 s1 = true) :
    Calls Tryd.prog 58 #[.agg #[.int .u8 0, .int .i64 n0, .string s0], .agg #[.int .u8 0, .int .i64 n1, .string s1]] w fun e w' => e = .returned (.tuple #[.bool true, .int .i64 0]) ∧ Below w.heap.size w w' := by
  have N := Aside0.mk (value_Right.calls 1 0 n0 s0 (rightB 0 n0 s0) · (right_f 0 0 n0 s0))
  rw [hr] at N
  clear hr
  have M := Aside0.mk (value_Right.calls 1 0 n1 s1 (rightB 0 n1 s1) · (right_f 0 0 n1 s1))
  rw [hr1] at M
  clear hr1
  have i0 : ∀ W, (Instr.index 92 (.agg #[.int .u8 0, .int .i64 n0, .string s0, .int .u8 0, .int .i64 n1, .string s1]) (.int .i64 0)).run Tryd.prog W = .ok (.agg #[.int .u8 0, .int .i64 n0, .string s0]) W := fun W => by kernel_rfl
  have i1 : ∀ W, (Instr.index 92 (.agg #[.int .u8 0, .int .i64 n0, .string s0, .int .u8 0, .int .i64 n1, .string s1]) (.int .i64 1)).run Tryd.prog W = .ok (.agg #[.int .u8 0, .int .i64 n1, .string s1]) W := fun W => by kernel_rfl
  go_enter Tryd.func58, Tryd.ntmps58
  go_wp2_with fail
  refine (N.out _).mono ?_
  rintro e w1 ⟨rfl, hb1⟩
  obtain ⟨c1, f1⟩ := bcell hb1
  have c10 := fun o => c1 (w.heap.size) o (by first | (simp; done) | (simp; omega) | omega)
  have f10 := fun o => f1 (w.heap.size) o (by first | (simp; done) | (simp; omega) | omega)
  have c11 := fun o => c1 (w.heap.size + 1) o (by first | (simp; done) | (simp; omega) | omega)
  have f11 := fun o => f1 (w.heap.size + 1) o (by first | (simp; done) | (simp; omega) | omega)
  have l10 : w.heap.size < w1.heap.size := by
    have := hb1.size
    try simp at this
    omega
  have l11 : w.heap.size + 1 < w1.heap.size := by
    have := hb1.size
    try simp at this
    omega
  clear c1 f1
  replace hb1 := Aside0.mk hb1
  go_wp2_with fail
  refine (M.out _).mono ?_
  rintro e w2 ⟨rfl, hb2⟩
  obtain ⟨c2, f2⟩ := bcell hb2
  have c20 := fun o => c2 (w.heap.size) o (by first | (simp; done) | (simp; omega) | omega)
  have f20 := fun o => f2 (w.heap.size) o (by first | (simp; done) | (simp; omega) | omega)
  have c21 := fun o => c2 (w.heap.size + 1) o (by first | (simp; done) | (simp; omega) | omega)
  have f21 := fun o => f2 (w.heap.size + 1) o (by first | (simp; done) | (simp; omega) | omega)
  have l20 : w.heap.size < w2.heap.size := by
    have := hb2.size
    try simp at this
    omega
  have l21 : w.heap.size + 1 < w2.heap.size := by
    have := hb2.size
    try simp at this
    omega
  clear c2 f2
  replace hb2 := Aside0.mk hb2
  go_wp2_with fail
  refine wp_loop_rounds 3 ?_
  rw [rounds_succ]
  go_wp2_with fail
  rw [rounds_succ]
  go_wp2_with fail
  rw [rounds_succ]
  go_wp2_with fail
  go_ret2
  exact ⟨rfl, below_alloc (below_alloc (below_step (below_step (below_alloc (below_alloc (Below.refl _ _) _) _) hb1.out) hb2.out) _) _⟩
set_option maxRecDepth 100000 in
set_option maxHeartbeats 1000000 in
theorem a_null_num (n0 : Int) (s0 : ByteArray) (k1 n1 : Int) (s1 : ByteArray) (w : World) (hr : rightB 0 n0 s0 = true) (hr1 : rightB k1 n1 s1 = true) (q1 : numB k1 = true) (z1 : (k1 == 0) = false) (y1 : (k1 != 0) = true) :
    Calls Tryd.prog 58 #[.agg #[.int .u8 0, .int .i64 n0, .string s0], .agg #[.int .u8 k1, .int .i64 n1, .string s1]] w fun e w' => e = .returned (.tuple #[.bool true, .int .i64 0]) ∧ Below w.heap.size w w' := by
  have N := Aside0.mk (value_Right.calls 1 0 n0 s0 (rightB 0 n0 s0) · (right_f 0 0 n0 s0))
  rw [hr] at N
  clear hr
  have M := Aside0.mk (value_Right.calls 1 k1 n1 s1 (rightB k1 n1 s1) · (right_f 0 k1 n1 s1))
  rw [hr1] at M
  clear hr1
  have A1 := Aside0.mk (value_number.calls k1 n1 s1 (numB k1) · (number_f k1 n1 s1))
  rw [q1] at A1
  clear q1
  have i0 : ∀ W, (Instr.index 92 (.agg #[.int .u8 0, .int .i64 n0, .string s0, .int .u8 k1, .int .i64 n1, .string s1]) (.int .i64 0)).run Tryd.prog W = .ok (.agg #[.int .u8 0, .int .i64 n0, .string s0]) W := fun W => by kernel_rfl
  have i1 : ∀ W, (Instr.index 92 (.agg #[.int .u8 0, .int .i64 n0, .string s0, .int .u8 k1, .int .i64 n1, .string s1]) (.int .i64 1)).run Tryd.prog W = .ok (.agg #[.int .u8 k1, .int .i64 n1, .string s1]) W := fun W => by kernel_rfl
  go_enter Tryd.func58, Tryd.ntmps58
  go_wp2_with fail
  refine (N.out _).mono ?_
  rintro e w1 ⟨rfl, hb1⟩
  obtain ⟨c1, f1⟩ := bcell hb1
  have c10 := fun o => c1 (w.heap.size) o (by first | (simp; done) | (simp; omega) | omega)
  have f10 := fun o => f1 (w.heap.size) o (by first | (simp; done) | (simp; omega) | omega)
  have c11 := fun o => c1 (w.heap.size + 1) o (by first | (simp; done) | (simp; omega) | omega)
  have f11 := fun o => f1 (w.heap.size + 1) o (by first | (simp; done) | (simp; omega) | omega)
  have l10 : w.heap.size < w1.heap.size := by
    have := hb1.size
    try simp at this
    omega
  have l11 : w.heap.size + 1 < w1.heap.size := by
    have := hb1.size
    try simp at this
    omega
  clear c1 f1
  replace hb1 := Aside0.mk hb1
  go_wp2_with fail
  refine (M.out _).mono ?_
  rintro e w2 ⟨rfl, hb2⟩
  obtain ⟨c2, f2⟩ := bcell hb2
  have c20 := fun o => c2 (w.heap.size) o (by first | (simp; done) | (simp; omega) | omega)
  have f20 := fun o => f2 (w.heap.size) o (by first | (simp; done) | (simp; omega) | omega)
  have c21 := fun o => c2 (w.heap.size + 1) o (by first | (simp; done) | (simp; omega) | omega)
  have f21 := fun o => f2 (w.heap.size + 1) o (by first | (simp; done) | (simp; omega) | omega)
  have l20 : w.heap.size < w2.heap.size := by
    have := hb2.size
    try simp at this
    omega
  have l21 : w.heap.size + 1 < w2.heap.size := by
    have := hb2.size
    try simp at this
    omega
  clear c2 f2
  replace hb2 := Aside0.mk hb2
  go_wp2_with fail
  refine wp_loop_rounds 3 ?_
  rw [rounds_succ]
  go_wp2_with fail
  rw [rounds_succ]
  go_wp2_with fail
  refine (A1.out _).mono ?_
  rintro e w4 ⟨rfl, hb4⟩
  obtain ⟨c4, f4⟩ := bcell hb4
  have c40 := fun o => c4 (w.heap.size) o (by first | (simp; done) | (simp; omega) | omega)
  have f40 := fun o => f4 (w.heap.size) o (by first | (simp; done) | (simp; omega) | omega)
  have c41 := fun o => c4 (w.heap.size + 1) o (by first | (simp; done) | (simp; omega) | omega)
  have f41 := fun o => f4 (w.heap.size + 1) o (by first | (simp; done) | (simp; omega) | omega)
  have l40 : w.heap.size < w4.heap.size := by
    have := hb4.size
    try simp at this
    omega
  have l41 : w.heap.size + 1 < w4.heap.size := by
    have := hb4.size
    try simp at this
    omega
  clear c4 f4
  replace hb4 := Aside0.mk hb4
  go_wp2_with fail
  rw [rounds_succ]
  go_wp2_with fail
  go_ret2
  exact ⟨rfl, below_step (below_alloc (below_alloc (below_step (below_step (below_alloc (below_alloc (Below.refl _ _) _) _) hb1.out) hb2.out) _) _) hb4.out⟩
set_option maxRecDepth 100000 in
set_option maxHeartbeats 1000000 in
theorem a_null_bad (n0 : Int) (s0 : ByteArray) (k1 n1 : Int) (s1 : ByteArray) (w : World) (hr : rightB 0 n0 s0 = true) (hr1 : rightB k1 n1 s1 = true) (q1 : numB k1 = false) (z1 : (k1 == 0) = false) (y1 : (k1 != 0) = true) :
    Calls Tryd.prog 58 #[.agg #[.int .u8 0, .int .i64 n0, .string s0], .agg #[.int .u8 k1, .int .i64 n1, .string s1]] w fun e w' => e = .returned (.tuple #[.bool false, .int .i64 270]) ∧ Below w.heap.size w w' := by
  have N := Aside0.mk (value_Right.calls 1 0 n0 s0 (rightB 0 n0 s0) · (right_f 0 0 n0 s0))
  rw [hr] at N
  clear hr
  have M := Aside0.mk (value_Right.calls 1 k1 n1 s1 (rightB k1 n1 s1) · (right_f 0 k1 n1 s1))
  rw [hr1] at M
  clear hr1
  have A1 := Aside0.mk (value_number.calls k1 n1 s1 (numB k1) · (number_f k1 n1 s1))
  rw [q1] at A1
  clear q1
  have i0 : ∀ W, (Instr.index 92 (.agg #[.int .u8 0, .int .i64 n0, .string s0, .int .u8 k1, .int .i64 n1, .string s1]) (.int .i64 0)).run Tryd.prog W = .ok (.agg #[.int .u8 0, .int .i64 n0, .string s0]) W := fun W => by kernel_rfl
  have i1 : ∀ W, (Instr.index 92 (.agg #[.int .u8 0, .int .i64 n0, .string s0, .int .u8 k1, .int .i64 n1, .string s1]) (.int .i64 1)).run Tryd.prog W = .ok (.agg #[.int .u8 k1, .int .i64 n1, .string s1]) W := fun W => by kernel_rfl
  go_enter Tryd.func58, Tryd.ntmps58
  go_wp2_with fail
  refine (N.out _).mono ?_
  rintro e w1 ⟨rfl, hb1⟩
  obtain ⟨c1, f1⟩ := bcell hb1
  have c10 := fun o => c1 (w.heap.size) o (by first | (simp; done) | (simp; omega) | omega)
  have f10 := fun o => f1 (w.heap.size) o (by first | (simp; done) | (simp; omega) | omega)
  have c11 := fun o => c1 (w.heap.size + 1) o (by first | (simp; done) | (simp; omega) | omega)
  have f11 := fun o => f1 (w.heap.size + 1) o (by first | (simp; done) | (simp; omega) | omega)
  have l10 : w.heap.size < w1.heap.size := by
    have := hb1.size
    try simp at this
    omega
  have l11 : w.heap.size + 1 < w1.heap.size := by
    have := hb1.size
    try simp at this
    omega
  clear c1 f1
  replace hb1 := Aside0.mk hb1
  go_wp2_with fail
  refine (M.out _).mono ?_
  rintro e w2 ⟨rfl, hb2⟩
  obtain ⟨c2, f2⟩ := bcell hb2
  have c20 := fun o => c2 (w.heap.size) o (by first | (simp; done) | (simp; omega) | omega)
  have f20 := fun o => f2 (w.heap.size) o (by first | (simp; done) | (simp; omega) | omega)
  have c21 := fun o => c2 (w.heap.size + 1) o (by first | (simp; done) | (simp; omega) | omega)
  have f21 := fun o => f2 (w.heap.size + 1) o (by first | (simp; done) | (simp; omega) | omega)
  have l20 : w.heap.size < w2.heap.size := by
    have := hb2.size
    try simp at this
    omega
  have l21 : w.heap.size + 1 < w2.heap.size := by
    have := hb2.size
    try simp at this
    omega
  clear c2 f2
  replace hb2 := Aside0.mk hb2
  go_wp2_with fail
  refine wp_loop_rounds 3 ?_
  rw [rounds_succ]
  go_wp2_with fail
  rw [rounds_succ]
  go_wp2_with fail
  refine (A1.out _).mono ?_
  rintro e w4 ⟨rfl, hb4⟩
  obtain ⟨c4, f4⟩ := bcell hb4
  have c40 := fun o => c4 (w.heap.size) o (by first | (simp; done) | (simp; omega) | omega)
  have f40 := fun o => f4 (w.heap.size) o (by first | (simp; done) | (simp; omega) | omega)
  have c41 := fun o => c4 (w.heap.size + 1) o (by first | (simp; done) | (simp; omega) | omega)
  have f41 := fun o => f4 (w.heap.size + 1) o (by first | (simp; done) | (simp; omega) | omega)
  have l40 : w.heap.size < w4.heap.size := by
    have := hb4.size
    try simp at this
    omega
  have l41 : w.heap.size + 1 < w4.heap.size := by
    have := hb4.size
    try simp at this
    omega
  clear c4 f4
  replace hb4 := Aside0.mk hb4
  go_wp2_with fail
  go_ret2
  exact ⟨rfl, below_step (below_alloc (below_alloc (below_step (below_step (below_alloc (below_alloc (Below.refl _ _) _) _) hb1.out) hb2.out) _) _) hb4.out⟩
set_option maxRecDepth 100000 in
set_option maxHeartbeats 1000000 in
theorem a_num_null (k0 n0 : Int) (s0 : ByteArray) (n1 : Int) (s1 : ByteArray) (w : World) (hr : rightB k0 n0 s0 = true) (hr1 : rightB 0 n1 s1 = true) (q0 : numB k0 = true) (z0 : (k0 == 0) = false) (y0 : (k0 != 0) = true) :
    Calls Tryd.prog 58 #[.agg #[.int .u8 k0, .int .i64 n0, .string s0], .agg #[.int .u8 0, .int .i64 n1, .string s1]] w fun e w' => e = .returned (.tuple #[.bool true, .int .i64 0]) ∧ Below w.heap.size w w' := by
  have N := Aside0.mk (value_Right.calls 1 k0 n0 s0 (rightB k0 n0 s0) · (right_f 0 k0 n0 s0))
  rw [hr] at N
  clear hr
  have M := Aside0.mk (value_Right.calls 1 0 n1 s1 (rightB 0 n1 s1) · (right_f 0 0 n1 s1))
  rw [hr1] at M
  clear hr1
  have A0 := Aside0.mk (value_number.calls k0 n0 s0 (numB k0) · (number_f k0 n0 s0))
  rw [q0] at A0
  clear q0
  have i0 : ∀ W, (Instr.index 92 (.agg #[.int .u8 k0, .int .i64 n0, .string s0, .int .u8 0, .int .i64 n1, .string s1]) (.int .i64 0)).run Tryd.prog W = .ok (.agg #[.int .u8 k0, .int .i64 n0, .string s0]) W := fun W => by kernel_rfl
  have i1 : ∀ W, (Instr.index 92 (.agg #[.int .u8 k0, .int .i64 n0, .string s0, .int .u8 0, .int .i64 n1, .string s1]) (.int .i64 1)).run Tryd.prog W = .ok (.agg #[.int .u8 0, .int .i64 n1, .string s1]) W := fun W => by kernel_rfl
  go_enter Tryd.func58, Tryd.ntmps58
  go_wp2_with fail
  refine (N.out _).mono ?_
  rintro e w1 ⟨rfl, hb1⟩
  obtain ⟨c1, f1⟩ := bcell hb1
  have c10 := fun o => c1 (w.heap.size) o (by first | (simp; done) | (simp; omega) | omega)
  have f10 := fun o => f1 (w.heap.size) o (by first | (simp; done) | (simp; omega) | omega)
  have c11 := fun o => c1 (w.heap.size + 1) o (by first | (simp; done) | (simp; omega) | omega)
  have f11 := fun o => f1 (w.heap.size + 1) o (by first | (simp; done) | (simp; omega) | omega)
  have l10 : w.heap.size < w1.heap.size := by
    have := hb1.size
    try simp at this
    omega
  have l11 : w.heap.size + 1 < w1.heap.size := by
    have := hb1.size
    try simp at this
    omega
  clear c1 f1
  replace hb1 := Aside0.mk hb1
  go_wp2_with fail
  refine (M.out _).mono ?_
  rintro e w2 ⟨rfl, hb2⟩
  obtain ⟨c2, f2⟩ := bcell hb2
  have c20 := fun o => c2 (w.heap.size) o (by first | (simp; done) | (simp; omega) | omega)
  have f20 := fun o => f2 (w.heap.size) o (by first | (simp; done) | (simp; omega) | omega)
  have c21 := fun o => c2 (w.heap.size + 1) o (by first | (simp; done) | (simp; omega) | omega)
  have f21 := fun o => f2 (w.heap.size + 1) o (by first | (simp; done) | (simp; omega) | omega)
  have l20 : w.heap.size < w2.heap.size := by
    have := hb2.size
    try simp at this
    omega
  have l21 : w.heap.size + 1 < w2.heap.size := by
    have := hb2.size
    try simp at this
    omega
  clear c2 f2
  replace hb2 := Aside0.mk hb2
  go_wp2_with fail
  refine wp_loop_rounds 3 ?_
  rw [rounds_succ]
  go_wp2_with fail
  refine (A0.out _).mono ?_
  rintro e w3 ⟨rfl, hb3⟩
  obtain ⟨c3, f3⟩ := bcell hb3
  have c30 := fun o => c3 (w.heap.size) o (by first | (simp; done) | (simp; omega) | omega)
  have f30 := fun o => f3 (w.heap.size) o (by first | (simp; done) | (simp; omega) | omega)
  have c31 := fun o => c3 (w.heap.size + 1) o (by first | (simp; done) | (simp; omega) | omega)
  have f31 := fun o => f3 (w.heap.size + 1) o (by first | (simp; done) | (simp; omega) | omega)
  have l30 : w.heap.size < w3.heap.size := by
    have := hb3.size
    try simp at this
    omega
  have l31 : w.heap.size + 1 < w3.heap.size := by
    have := hb3.size
    try simp at this
    omega
  clear c3 f3
  replace hb3 := Aside0.mk hb3
  go_wp2_with fail
  rw [rounds_succ]
  go_wp2_with fail
  rw [rounds_succ]
  go_wp2_with fail
  go_ret2
  exact ⟨rfl, below_alloc (below_step (below_alloc (below_step (below_step (below_alloc (below_alloc (Below.refl _ _) _) _) hb1.out) hb2.out) _) hb3.out) _⟩
set_option maxRecDepth 100000 in
set_option maxHeartbeats 1000000 in
theorem a_num_num (k0 n0 : Int) (s0 : ByteArray) (k1 n1 : Int) (s1 : ByteArray) (w : World) (hr : rightB k0 n0 s0 = true) (hr1 : rightB k1 n1 s1 = true) (q0 : numB k0 = true) (z0 : (k0 == 0) = false) (y0 : (k0 != 0) = true) (q1 : numB k1 = true) (z1 : (k1 == 0) = false) (y1 : (k1 != 0) = true) :
    Calls Tryd.prog 58 #[.agg #[.int .u8 k0, .int .i64 n0, .string s0], .agg #[.int .u8 k1, .int .i64 n1, .string s1]] w fun e w' => e = .returned (.tuple #[.bool false, .int .i64 0]) ∧ Below w.heap.size w w' := by
  have N := Aside0.mk (value_Right.calls 1 k0 n0 s0 (rightB k0 n0 s0) · (right_f 0 k0 n0 s0))
  rw [hr] at N
  clear hr
  have M := Aside0.mk (value_Right.calls 1 k1 n1 s1 (rightB k1 n1 s1) · (right_f 0 k1 n1 s1))
  rw [hr1] at M
  clear hr1
  have A0 := Aside0.mk (value_number.calls k0 n0 s0 (numB k0) · (number_f k0 n0 s0))
  rw [q0] at A0
  clear q0
  have A1 := Aside0.mk (value_number.calls k1 n1 s1 (numB k1) · (number_f k1 n1 s1))
  rw [q1] at A1
  clear q1
  have i0 : ∀ W, (Instr.index 92 (.agg #[.int .u8 k0, .int .i64 n0, .string s0, .int .u8 k1, .int .i64 n1, .string s1]) (.int .i64 0)).run Tryd.prog W = .ok (.agg #[.int .u8 k0, .int .i64 n0, .string s0]) W := fun W => by kernel_rfl
  have i1 : ∀ W, (Instr.index 92 (.agg #[.int .u8 k0, .int .i64 n0, .string s0, .int .u8 k1, .int .i64 n1, .string s1]) (.int .i64 1)).run Tryd.prog W = .ok (.agg #[.int .u8 k1, .int .i64 n1, .string s1]) W := fun W => by kernel_rfl
  go_enter Tryd.func58, Tryd.ntmps58
  go_wp2_with fail
  refine (N.out _).mono ?_
  rintro e w1 ⟨rfl, hb1⟩
  obtain ⟨c1, f1⟩ := bcell hb1
  have c10 := fun o => c1 (w.heap.size) o (by first | (simp; done) | (simp; omega) | omega)
  have f10 := fun o => f1 (w.heap.size) o (by first | (simp; done) | (simp; omega) | omega)
  have c11 := fun o => c1 (w.heap.size + 1) o (by first | (simp; done) | (simp; omega) | omega)
  have f11 := fun o => f1 (w.heap.size + 1) o (by first | (simp; done) | (simp; omega) | omega)
  have l10 : w.heap.size < w1.heap.size := by
    have := hb1.size
    try simp at this
    omega
  have l11 : w.heap.size + 1 < w1.heap.size := by
    have := hb1.size
    try simp at this
    omega
  clear c1 f1
  replace hb1 := Aside0.mk hb1
  go_wp2_with fail
  refine (M.out _).mono ?_
  rintro e w2 ⟨rfl, hb2⟩
  obtain ⟨c2, f2⟩ := bcell hb2
  have c20 := fun o => c2 (w.heap.size) o (by first | (simp; done) | (simp; omega) | omega)
  have f20 := fun o => f2 (w.heap.size) o (by first | (simp; done) | (simp; omega) | omega)
  have c21 := fun o => c2 (w.heap.size + 1) o (by first | (simp; done) | (simp; omega) | omega)
  have f21 := fun o => f2 (w.heap.size + 1) o (by first | (simp; done) | (simp; omega) | omega)
  have l20 : w.heap.size < w2.heap.size := by
    have := hb2.size
    try simp at this
    omega
  have l21 : w.heap.size + 1 < w2.heap.size := by
    have := hb2.size
    try simp at this
    omega
  clear c2 f2
  replace hb2 := Aside0.mk hb2
  go_wp2_with fail
  refine wp_loop_rounds 3 ?_
  rw [rounds_succ]
  go_wp2_with fail
  refine (A0.out _).mono ?_
  rintro e w3 ⟨rfl, hb3⟩
  obtain ⟨c3, f3⟩ := bcell hb3
  have c30 := fun o => c3 (w.heap.size) o (by first | (simp; done) | (simp; omega) | omega)
  have f30 := fun o => f3 (w.heap.size) o (by first | (simp; done) | (simp; omega) | omega)
  have c31 := fun o => c3 (w.heap.size + 1) o (by first | (simp; done) | (simp; omega) | omega)
  have f31 := fun o => f3 (w.heap.size + 1) o (by first | (simp; done) | (simp; omega) | omega)
  have l30 : w.heap.size < w3.heap.size := by
    have := hb3.size
    try simp at this
    omega
  have l31 : w.heap.size + 1 < w3.heap.size := by
    have := hb3.size
    try simp at this
    omega
  clear c3 f3
  replace hb3 := Aside0.mk hb3
  go_wp2_with fail
  rw [rounds_succ]
  go_wp2_with fail
  refine (A1.out _).mono ?_
  rintro e w4 ⟨rfl, hb4⟩
  obtain ⟨c4, f4⟩ := bcell hb4
  have c40 := fun o => c4 (w.heap.size) o (by first | (simp; done) | (simp; omega) | omega)
  have f40 := fun o => f4 (w.heap.size) o (by first | (simp; done) | (simp; omega) | omega)
  have c41 := fun o => c4 (w.heap.size + 1) o (by first | (simp; done) | (simp; omega) | omega)
  have f41 := fun o => f4 (w.heap.size + 1) o (by first | (simp; done) | (simp; omega) | omega)
  have l40 : w.heap.size < w4.heap.size := by
    have := hb4.size
    try simp at this
    omega
  have l41 : w.heap.size + 1 < w4.heap.size := by
    have := hb4.size
    try simp at this
    omega
  clear c4 f4
  replace hb4 := Aside0.mk hb4
  go_wp2_with fail
  rw [rounds_succ]
  go_wp2_with fail
  go_ret2
  exact ⟨rfl, below_step (below_alloc (below_step (below_alloc (below_step (below_step (below_alloc (below_alloc (Below.refl _ _) _) _) hb1.out) hb2.out) _) hb3.out) _) hb4.out⟩
set_option maxRecDepth 100000 in
set_option maxHeartbeats 1000000 in
theorem a_num_bad (k0 n0 : Int) (s0 : ByteArray) (k1 n1 : Int) (s1 : ByteArray) (w : World) (hr : rightB k0 n0 s0 = true) (hr1 : rightB k1 n1 s1 = true) (q0 : numB k0 = true) (z0 : (k0 == 0) = false) (y0 : (k0 != 0) = true) (q1 : numB k1 = false) (z1 : (k1 == 0) = false) (y1 : (k1 != 0) = true) :
    Calls Tryd.prog 58 #[.agg #[.int .u8 k0, .int .i64 n0, .string s0], .agg #[.int .u8 k1, .int .i64 n1, .string s1]] w fun e w' => e = .returned (.tuple #[.bool false, .int .i64 270]) ∧ Below w.heap.size w w' := by
  have N := Aside0.mk (value_Right.calls 1 k0 n0 s0 (rightB k0 n0 s0) · (right_f 0 k0 n0 s0))
  rw [hr] at N
  clear hr
  have M := Aside0.mk (value_Right.calls 1 k1 n1 s1 (rightB k1 n1 s1) · (right_f 0 k1 n1 s1))
  rw [hr1] at M
  clear hr1
  have A0 := Aside0.mk (value_number.calls k0 n0 s0 (numB k0) · (number_f k0 n0 s0))
  rw [q0] at A0
  clear q0
  have A1 := Aside0.mk (value_number.calls k1 n1 s1 (numB k1) · (number_f k1 n1 s1))
  rw [q1] at A1
  clear q1
  have i0 : ∀ W, (Instr.index 92 (.agg #[.int .u8 k0, .int .i64 n0, .string s0, .int .u8 k1, .int .i64 n1, .string s1]) (.int .i64 0)).run Tryd.prog W = .ok (.agg #[.int .u8 k0, .int .i64 n0, .string s0]) W := fun W => by kernel_rfl
  have i1 : ∀ W, (Instr.index 92 (.agg #[.int .u8 k0, .int .i64 n0, .string s0, .int .u8 k1, .int .i64 n1, .string s1]) (.int .i64 1)).run Tryd.prog W = .ok (.agg #[.int .u8 k1, .int .i64 n1, .string s1]) W := fun W => by kernel_rfl
  go_enter Tryd.func58, Tryd.ntmps58
  go_wp2_with fail
  refine (N.out _).mono ?_
  rintro e w1 ⟨rfl, hb1⟩
  obtain ⟨c1, f1⟩ := bcell hb1
  have c10 := fun o => c1 (w.heap.size) o (by first | (simp; done) | (simp; omega) | omega)
  have f10 := fun o => f1 (w.heap.size) o (by first | (simp; done) | (simp; omega) | omega)
  have c11 := fun o => c1 (w.heap.size + 1) o (by first | (simp; done) | (simp; omega) | omega)
  have f11 := fun o => f1 (w.heap.size + 1) o (by first | (simp; done) | (simp; omega) | omega)
  have l10 : w.heap.size < w1.heap.size := by
    have := hb1.size
    try simp at this
    omega
  have l11 : w.heap.size + 1 < w1.heap.size := by
    have := hb1.size
    try simp at this
    omega
  clear c1 f1
  replace hb1 := Aside0.mk hb1
  go_wp2_with fail
  refine (M.out _).mono ?_
  rintro e w2 ⟨rfl, hb2⟩
  obtain ⟨c2, f2⟩ := bcell hb2
  have c20 := fun o => c2 (w.heap.size) o (by first | (simp; done) | (simp; omega) | omega)
  have f20 := fun o => f2 (w.heap.size) o (by first | (simp; done) | (simp; omega) | omega)
  have c21 := fun o => c2 (w.heap.size + 1) o (by first | (simp; done) | (simp; omega) | omega)
  have f21 := fun o => f2 (w.heap.size + 1) o (by first | (simp; done) | (simp; omega) | omega)
  have l20 : w.heap.size < w2.heap.size := by
    have := hb2.size
    try simp at this
    omega
  have l21 : w.heap.size + 1 < w2.heap.size := by
    have := hb2.size
    try simp at this
    omega
  clear c2 f2
  replace hb2 := Aside0.mk hb2
  go_wp2_with fail
  refine wp_loop_rounds 3 ?_
  rw [rounds_succ]
  go_wp2_with fail
  refine (A0.out _).mono ?_
  rintro e w3 ⟨rfl, hb3⟩
  obtain ⟨c3, f3⟩ := bcell hb3
  have c30 := fun o => c3 (w.heap.size) o (by first | (simp; done) | (simp; omega) | omega)
  have f30 := fun o => f3 (w.heap.size) o (by first | (simp; done) | (simp; omega) | omega)
  have c31 := fun o => c3 (w.heap.size + 1) o (by first | (simp; done) | (simp; omega) | omega)
  have f31 := fun o => f3 (w.heap.size + 1) o (by first | (simp; done) | (simp; omega) | omega)
  have l30 : w.heap.size < w3.heap.size := by
    have := hb3.size
    try simp at this
    omega
  have l31 : w.heap.size + 1 < w3.heap.size := by
    have := hb3.size
    try simp at this
    omega
  clear c3 f3
  replace hb3 := Aside0.mk hb3
  go_wp2_with fail
  rw [rounds_succ]
  go_wp2_with fail
  refine (A1.out _).mono ?_
  rintro e w4 ⟨rfl, hb4⟩
  obtain ⟨c4, f4⟩ := bcell hb4
  have c40 := fun o => c4 (w.heap.size) o (by first | (simp; done) | (simp; omega) | omega)
  have f40 := fun o => f4 (w.heap.size) o (by first | (simp; done) | (simp; omega) | omega)
  have c41 := fun o => c4 (w.heap.size + 1) o (by first | (simp; done) | (simp; omega) | omega)
  have f41 := fun o => f4 (w.heap.size + 1) o (by first | (simp; done) | (simp; omega) | omega)
  have l40 : w.heap.size < w4.heap.size := by
    have := hb4.size
    try simp at this
    omega
  have l41 : w.heap.size + 1 < w4.heap.size := by
    have := hb4.size
    try simp at this
    omega
  clear c4 f4
  replace hb4 := Aside0.mk hb4
  go_wp2_with fail
  go_ret2
  exact ⟨rfl, below_step (below_alloc (below_step (below_alloc (below_step (below_step (below_alloc (below_alloc (Below.refl _ _) _) _) hb1.out) hb2.out) _) hb3.out) _) hb4.out⟩
set_option maxRecDepth 100000 in
set_option maxHeartbeats 1000000 in
theorem a_bad_any (k0 n0 : Int) (s0 : ByteArray) (k1 n1 : Int) (s1 : ByteArray) (w : World) (hr : rightB k0 n0 s0 = true) (hr1 : rightB k1 n1 s1 = true) (q0 : numB k0 = false) (z0 : (k0 == 0) = false) (y0 : (k0 != 0) = true) :
    Calls Tryd.prog 58 #[.agg #[.int .u8 k0, .int .i64 n0, .string s0], .agg #[.int .u8 k1, .int .i64 n1, .string s1]] w fun e w' => e = .returned (.tuple #[.bool false, .int .i64 270]) ∧ Below w.heap.size w w' := by
  have N := Aside0.mk (value_Right.calls 1 k0 n0 s0 (rightB k0 n0 s0) · (right_f 0 k0 n0 s0))
  rw [hr] at N
  clear hr
  have M := Aside0.mk (value_Right.calls 1 k1 n1 s1 (rightB k1 n1 s1) · (right_f 0 k1 n1 s1))
  rw [hr1] at M
  clear hr1
  have A0 := Aside0.mk (value_number.calls k0 n0 s0 (numB k0) · (number_f k0 n0 s0))
  rw [q0] at A0
  clear q0
  have i0 : ∀ W, (Instr.index 92 (.agg #[.int .u8 k0, .int .i64 n0, .string s0, .int .u8 k1, .int .i64 n1, .string s1]) (.int .i64 0)).run Tryd.prog W = .ok (.agg #[.int .u8 k0, .int .i64 n0, .string s0]) W := fun W => by kernel_rfl
  have i1 : ∀ W, (Instr.index 92 (.agg #[.int .u8 k0, .int .i64 n0, .string s0, .int .u8 k1, .int .i64 n1, .string s1]) (.int .i64 1)).run Tryd.prog W = .ok (.agg #[.int .u8 k1, .int .i64 n1, .string s1]) W := fun W => by kernel_rfl
  go_enter Tryd.func58, Tryd.ntmps58
  go_wp2_with fail
  refine (N.out _).mono ?_
  rintro e w1 ⟨rfl, hb1⟩
  obtain ⟨c1, f1⟩ := bcell hb1
  have c10 := fun o => c1 (w.heap.size) o (by first | (simp; done) | (simp; omega) | omega)
  have f10 := fun o => f1 (w.heap.size) o (by first | (simp; done) | (simp; omega) | omega)
  have c11 := fun o => c1 (w.heap.size + 1) o (by first | (simp; done) | (simp; omega) | omega)
  have f11 := fun o => f1 (w.heap.size + 1) o (by first | (simp; done) | (simp; omega) | omega)
  have l10 : w.heap.size < w1.heap.size := by
    have := hb1.size
    try simp at this
    omega
  have l11 : w.heap.size + 1 < w1.heap.size := by
    have := hb1.size
    try simp at this
    omega
  clear c1 f1
  replace hb1 := Aside0.mk hb1
  go_wp2_with fail
  refine (M.out _).mono ?_
  rintro e w2 ⟨rfl, hb2⟩
  obtain ⟨c2, f2⟩ := bcell hb2
  have c20 := fun o => c2 (w.heap.size) o (by first | (simp; done) | (simp; omega) | omega)
  have f20 := fun o => f2 (w.heap.size) o (by first | (simp; done) | (simp; omega) | omega)
  have c21 := fun o => c2 (w.heap.size + 1) o (by first | (simp; done) | (simp; omega) | omega)
  have f21 := fun o => f2 (w.heap.size + 1) o (by first | (simp; done) | (simp; omega) | omega)
  have l20 : w.heap.size < w2.heap.size := by
    have := hb2.size
    try simp at this
    omega
  have l21 : w.heap.size + 1 < w2.heap.size := by
    have := hb2.size
    try simp at this
    omega
  clear c2 f2
  replace hb2 := Aside0.mk hb2
  go_wp2_with fail
  refine wp_loop_rounds 3 ?_
  rw [rounds_succ]
  go_wp2_with fail
  refine (A0.out _).mono ?_
  rintro e w3 ⟨rfl, hb3⟩
  obtain ⟨c3, f3⟩ := bcell hb3
  have c30 := fun o => c3 (w.heap.size) o (by first | (simp; done) | (simp; omega) | omega)
  have f30 := fun o => f3 (w.heap.size) o (by first | (simp; done) | (simp; omega) | omega)
  have c31 := fun o => c3 (w.heap.size + 1) o (by first | (simp; done) | (simp; omega) | omega)
  have f31 := fun o => f3 (w.heap.size + 1) o (by first | (simp; done) | (simp; omega) | omega)
  have l30 : w.heap.size < w3.heap.size := by
    have := hb3.size
    try simp at this
    omega
  have l31 : w.heap.size + 1 < w3.heap.size := by
    have := hb3.size
    try simp at this
    omega
  clear c3 f3
  replace hb3 := Aside0.mk hb3
  go_wp2_with fail
  go_ret2
  exact ⟨rfl, below_step (below_alloc (below_step (below_step (below_alloc (below_alloc (Below.refl _ _) _) _) hb1.out) hb2.out) _) hb3.out⟩
end Go.Proofs.YtbodlnoipkommaaDoor.Wi
namespace Go.Proofs.YtbodlnoipkommaaDoor.Wd
open Go.RowKit Go.Shelf Go.Proofs.YtbodlnoipkommaaDoorW.PrintWords Go.Proofs.YtbodlnoipkommaaDoorW.PrintLast Go.Proofs.YtbodlnoipkommaaDoorW.PrintMore
def ren25 : Ren := ⟨fun | 25 => 72 | 26 => 73 | n => n, fun | 22 => 47 | n => n, fun n => n⟩
theorem lays25 : Lays7.n25 Tryd.prog ren25 := {
  mixed := by kernel_rfl
  f25 := Tryd.func72.trans (congrArg some (by kernel_rfl))
  t22 := by kernel_rfl
  a22 := fun _ => by kernel_rfl
  z22 := fun _ => by kernel_rfl
  v22 := fun _ => by kernel_rfl
  i22 := by kernel_rfl }
theorem lays26 : Lays7.n26 Tryd.prog ren25 := {
  mixed := by kernel_rfl
  f26 := Tryd.func73.trans (congrArg some (by kernel_rfl))
  t22 := by kernel_rfl
  a22 := fun _ => by kernel_rfl
  z22 := fun _ => by kernel_rfl
  v22 := fun _ => by kernel_rfl
  i22 := by kernel_rfl }
theorem add64 (x y c : Int) (hx : 0 ≤ x) (hy : 0 ≤ y) (hc0 : 0 ≤ c) (hc : c ≤ 1) (w : World) : (callFunc 72 #[.int .u64 x, .int .u64 y, .int .u64 c]).run Tryd.prog w =
    .ok (.value (.tuple #[.int .u64 ((x + y + c) % 18446744073709551616), .int .u64 ((x + y + c) / 18446744073709551616)])) w := by
  obtain ⟨x, rfl⟩ := Int.eq_ofNat_of_zero_le hx
  obtain ⟨y, rfl⟩ := Int.eq_ofNat_of_zero_le hy
  obtain ⟨c, rfl⟩ := Int.eq_ofNat_of_zero_le hc0
  refine (Any7.bits_Add64 lays25 x y c (by omega) w).trans ?_
  congr 5 <;> omega
theorem add64_0 (x y : Int) (hx : 0 ≤ x) (hy : 0 ≤ y) (w : World) : (callFunc 72 #[.int .u64 x, .int .u64 y, .int .u64 0]).run Tryd.prog w =
    .ok (.value (.tuple #[.int .u64 ((x + y) % 18446744073709551616), .int .u64 ((x + y) / 18446744073709551616)])) w := by
  simpa using add64 x y 0 hx hy (Int.le_refl 0) (by decide) w
def bor (x y : Int) : Int := if x < y then 1 else 0
theorem sub64_0 (x y : Int) (hx : 0 ≤ x) (hy : 0 ≤ y) (hy' : y < 18446744073709551616) (w : World) : (callFunc 73 #[.int .u64 x, .int .u64 y, .int .u64 0]).run Tryd.prog w =
    .ok (.value (.tuple #[.int .u64 ((x - y) % 18446744073709551616), .int .u64 (bor x y)])) w := by
  obtain ⟨x, rfl⟩ := Int.eq_ofNat_of_zero_le hx
  obtain ⟨y, rfl⟩ := Int.eq_ofNat_of_zero_le hy
  have e1 : (((x + 18446744073709551616 - y - 0) % 18446744073709551616 : Nat) : Int) = ((x : Int) - y) % 18446744073709551616 := by omega
  have e2 : ((if x < y + 0 then 1 else 0 : Nat) : Int) = bor x y := by unfold bor; split <;> split <;> omega
  rw [← e1, ← e2]
  exact Any7.bits_Sub64 lays26 x y 0 (by omega) w
end Go.Proofs.YtbodlnoipkommaaDoor.Wd
namespace Go.Proofs.YtbodlnoipkommaaDoor.We
open Go.RowKit Go.Shelf Go.Proofs.YtbodlnoipkommaaDoor.Wd Go.Proofs.YtbodlnoipkommaaDoorW.PrintWords Go.Proofs.YtbodlnoipkommaaDoorW.PrintLast Go.Proofs.YtbodlnoipkommaaDoorW.PrintMore
def Word (x : Int) : Prop := 0 ≤ x ∧ x < 18446744073709551616
instance (x : Int) : Decidable (Word x) := by unfold Word; infer_instance
def vw_plus.f (a0 a1 b0 b1 : Int) : Option (Int × Int) :=
  if Word a1 ∧ Word b1 then some (wrap64 (wrap64 (a0 + b0) + (a1 + b1) / 18446744073709551616), (a1 + b1) % 18446744073709551616) else none
set_option maxHeartbeats 4000000 in
theorem vw_plus.calls (a0 a1 b0 b1 : Int) (r1 r2 : Int) (w : World) (h : vw_plus.f a0 a1 b0 b1 = some (r1, r2)) :
    Calls Tryd.prog 40 #[.agg #[.int .i64 a0, .int .u64 a1], .agg #[.int .i64 b0, .int .u64 b1]] w fun e w' => e = .returned (.agg #[.int .i64 r1, .int .u64 r2]) ∧ Below w.heap.size w w' := by
  unfold vw_plus.f at h
  by_cases hc : Word a1 ∧ Word b1
  case neg => rw [if_neg hc] at h; cases h
  rw [if_pos hc] at h
  injection h with h
  injection h with e1 e2
  subst e1 e2
  obtain ⟨⟨p0, p1⟩, q0, q1⟩ := hc
  have k0 : 0 ≤ (a1 + b1) / 18446744073709551616 := by omega
  have k1 : (a1 + b1) / 18446744073709551616 ≤ 1 := by omega
  go_enter Tryd.func40, Tryd.ntmps40
  go_wp2_with (first | simp only [add64_0 a1 b1 p0 q0])
  simp [bodyPost, results, Tryd.results40, go_sem]
  exact below_alloc (below_alloc (below_alloc (Below.refl _ _) _) _) _
theorem bor_range (x y : Int) : 0 ≤ bor x y ∧ bor x y ≤ 1 := by unfold bor; split <;> decide
def vw_minus.f (a0 a1 : Int) : Option (Int × Int) :=
  if Word a1 then some (wrap64 (wrap64 (-a0) - bor 0 a1), (0 - a1) % 18446744073709551616) else none
set_option maxHeartbeats 4000000 in
theorem vw_minus.calls (a0 a1 : Int) (r1 r2 : Int) (w : World) (h : vw_minus.f a0 a1 = some (r1, r2)) :
    Calls Tryd.prog 41 #[.agg #[.int .i64 a0, .int .u64 a1]] w fun e w' => e = .returned (.agg #[.int .i64 r1, .int .u64 r2]) ∧ Below w.heap.size w w' := by
  unfold vw_minus.f at h
  by_cases hc : Word a1
  case neg => rw [if_neg hc] at h; cases h
  rw [if_pos hc] at h
  injection h with h
  injection h with e1 e2
  subst e1 e2
  obtain ⟨p0, p1⟩ := hc
  have hb := bor_range 0 a1
  generalize hbb : bor 0 a1 = bb at hb
  have hs := sub64_0 0 a1 (Int.le_refl 0) p0 p1
  rw [hbb] at hs
  go_enter Tryd.func41, Tryd.ntmps41
  go_wp2_with (first | simp only [hs])
  simp [bodyPost, results, Tryd.results41, go_sem]
  exact below_alloc (below_alloc (Below.refl _ _) _) _
def bits_Mul64.f (a0 a1 : Int) : Option (Int × Int) :=
  if Word a0 ∧ Word a1 then some (a0 * a1 / 18446744073709551616, a0 * a1 % 18446744073709551616) else none
theorem bits_Mul64.calls (a0 a1 : Int) (r1 r2 : Int) (w : World) (h : bits_Mul64.f a0 a1 = some (r1, r2)) :
    Calls Tryd.prog 85 #[.int .u64 a0, .int .u64 a1] w fun e w' => e = .returned (.tuple #[.int .u64 r1, .int .u64 r2]) ∧ Drawn0 w w' := by
  unfold bits_Mul64.f at h
  by_cases hc : Word a0 ∧ Word a1
  case neg => rw [if_neg hc] at h; cases h
  rw [if_pos hc] at h
  injection h with h
  injection h with e1 e2
  subst e1 e2
  obtain ⟨⟨p0, p1⟩, q0, q1⟩ := hc
  obtain ⟨x, rfl⟩ := Int.eq_ofNat_of_zero_le p0
  obtain ⟨y, rfl⟩ := Int.eq_ofNat_of_zero_le q0
  refine (Tryd.bits_Mul64 x y (by omega) (by omega) w).mono ?_
  rintro e w' ⟨rfl, rfl⟩
  refine ⟨?_, ⟨0, rfl⟩⟩
  simp
end Go.Proofs.YtbodlnoipkommaaDoor.We
namespace Go.Proofs.YtbodlnoipkommaaDoor.Q
open Go.RowKit Go.Proofs.YtbodlnoipkommaaDoorW.PrintWords Go.Proofs.YtbodlnoipkommaaDoorW.PrintLast Go.Proofs.YtbodlnoipkommaaDoorW.PrintMore
attribute [local go_sem] max2_int min2_int max_two min_two max_three min_three max_four min_four
set_option linter.unusedVariables false
set_option linter.unusedSimpArgs false
def value_of.f (a0 : Int) : Option (Int × Int) := some (a0 / 9223372036854775808, IntKind.u64.wrap (a0))
set_option maxHeartbeats 8000000 in
set_option maxRecDepth 100000 in
theorem value_of.calls (a0 : Int) (r1 : Int) (r2 : Int) (w : World) (h : value_of.f a0 = some (r1, r2)) :
  Calls Tryd.prog 63 #[.int .i64 a0] w fun e w' => e = .returned (.agg #[.int .i64 r1, .int .u64 r2]) ∧ Below w.heap.size w w' := by
 have hu49 := Tryd.underlying49
 have HB := Aside0.mk (Below.refl w.heap.size w)
 have H : (some (a0 / 9223372036854775808, IntKind.u64.wrap (a0))) = some (r1, r2) := h
 clear h
 simp only [Option.some.injEq, Prod.mk.injEq] at H
 obtain ⟨rfl, rfl⟩ := H
 go_enter Tryd.func63, Tryd.ntmps63
 go_wp2_with (first | ((with_reducible refine gate_dst (N := 2) rfl ?_); refine box_event ?hg (N := 2) ?hd (cs := #[.int .i64 0, .int .u64 0]) (t := 49) ?hr ?_; (case hd => rfl); (case hg => rfl); (case hr => first | (go_simp; done) | (go_simp; rfl)); intro gb115 hg w2 hbox hb; have n0_ := Aside0.mk (below_step (bw HB.out) hb); have n1_ := Aside0.mk (hbox); have n2_ := Aside0.mk ((by rw [hg]; exact (below_size (bw HB.out)) : w.heap.size ≤ gb115)); have n3_ := Aside0.mk ((by rw [hg]; exact (below_size (bw HB.out)) : w.heap.size ≤ gb115)); clear HB; have HB := n0_; have BK115 := n1_; have GW115 := n2_; have GE115 := n3_; clear n0_ n1_ n2_ n3_; clear hb hbox hg; have hcz3_0 : w2.cell? ⟨gb115, 0, none⟩ = some (.int .i64 0) := (blk_cell BK115.out 0).trans rfl; have hcz3_1 : w2.cell? ⟨gb115, 1, none⟩ = some (.int .u64 0) := (blk_cell BK115.out 1).trans rfl; have hfz3_0 := blk_frozen BK115.out 0; have hfz3_1 := blk_frozen BK115.out 1))
 refine bodyPost_ret (results_cell_row rfl _ _ gb115 49 #[.int .i64 (a0 / 9223372036854775808), .int .u64 (IntKind.u64.wrap (a0))] (0, 0) _ rfl (by (with_reducible repeat first | apply blk_drewN | apply blk_drew | apply blk_alloc); refine blk_put (cs := #[.int .i64 (a0 / 9223372036854775808), .int .u64 0]) ?_ 1 _ rfl; refine blk_put (cs := #[.int .i64 0, .int .u64 0]) ?_ 0 _ rfl; (with_reducible repeat first | apply blk_drewN | apply blk_drew | apply blk_alloc); exact BK115.out) Tryd.underlying49 rfl (by kernel_rfl)) rfl ?_
 exact ⟨by first | rfl | (simp [errW_none, errW_some] <;> rfl) | (simp [*, errW_none, errW_some] <;> rfl), by repeat (first | (with_reducible first | exact HB.out | apply below_alloc | apply pw_below_drewN | apply below_drew1 | refine below_set ?_ GE115.out) | exact HB.out)⟩
end Go.Proofs.YtbodlnoipkommaaDoor.Q
namespace Go.Proofs.YtbodlnoipkommaaDoor.Q
open Go.Proofs.YtbodlnoipkommaaDoor.We
open Go.RowKit Go.Proofs.YtbodlnoipkommaaDoorW.PrintWords Go.Proofs.YtbodlnoipkommaaDoorW.PrintLast Go.Proofs.YtbodlnoipkommaaDoorW.PrintMore
attribute [local go_sem] max2_int min2_int max_two min_two max_three min_three max_four min_four
set_option linter.unusedVariables false
set_option linter.unusedSimpArgs false
def vw_size.f (a0_0 : Int) (a0_1 : Int) : Option (Int × Int × Bool) := if a0_0 < 0 then ((vw_minus.f a0_0 a0_1).bind fun bt113 => (some (IntKind.u64.wrap (bt113.1), bt113.2, decide (a0_0 < 0)))) else (some (IntKind.u64.wrap (a0_0), a0_1, decide (a0_0 < 0)))
set_option maxHeartbeats 8000000 in
set_option maxRecDepth 100000 in
theorem vw_size.calls (a0_0 : Int) (a0_1 : Int) (r1 : Int) (r2 : Int) (r3 : Bool) (w : World) (h : vw_size.f a0_0 a0_1 = some (r1, r2, r3)) :
  Calls Tryd.prog 61 #[.agg #[.int .i64 a0_0, .int .u64 a0_1]] w fun e w' => e = .returned (.tuple #[.int .u64 r1, .int .u64 r2, .bool r3]) ∧ Below w.heap.size w w' := by
 have hu49 := Tryd.underlying49
 have HB := Aside0.mk (Below.refl w.heap.size w)
 have H : (if a0_0 < 0 then ((vw_minus.f a0_0 a0_1).bind fun bt113 => (some (IntKind.u64.wrap (bt113.1), bt113.2, decide (a0_0 < 0)))) else (some (IntKind.u64.wrap (a0_0), a0_1, decide (a0_0 < 0)))) = some (r1, r2, r3) := h
 clear h
 by_cases c2 : a0_0 < 0
 ·rw [if_pos c2] at H
  have c2b0 : decide (a0_0 < 0) = true := decide_eq_true c2
  clear c2
  replace H := Option.bind_eq_some_iff.mp H
  obtain ⟨⟨t113, t114⟩, A30, H⟩ := H
  replace H : (some (IntKind.u64.wrap (t113), t114, decide (a0_0 < 0))) = some (r1, r2, r3) := H
  have A3 := Aside0.mk A30
  clear A30
  simp only [Option.some.injEq, Prod.mk.injEq] at H
  obtain ⟨rfl, rfl, rfl⟩ := H
  go_enter Tryd.func61, Tryd.ntmps61
  go_wp2_with (first | ((with_reducible refine gate_dst (N := 1) rfl ?_); refine box_event ?hg (N := 1) ?hd (cs := #[.int .i64 a0_0, .int .u64 a0_1]) (t := 49) ?hr ?_; (case hd => rfl); (case hg => rfl); (case hr => first | (go_simp; done) | (go_simp; rfl)); intro gb112 hg w4 hbox hb; have n0_ := Aside0.mk (below_step (bw HB.out) hb); have n1_ := Aside0.mk (hbox); have n2_ := Aside0.mk ((by rw [hg]; exact (below_size (bw HB.out)) : w.heap.size ≤ gb112)); have n3_ := Aside0.mk ((by rw [hg]; exact (below_size (bw HB.out)) : w.heap.size ≤ gb112)); clear HB; have HB := n0_; have BK112 := n1_; have GW112 := n2_; have GE112 := n3_; clear n0_ n1_ n2_ n3_; clear hb hbox hg; have hcz5_0 : w4.cell? ⟨gb112, 0, none⟩ = some (.int .i64 a0_0) := (blk_cell BK112.out 0).trans rfl; have hcz5_1 : w4.cell? ⟨gb112, 1, none⟩ = some (.int .u64 a0_1) := (blk_cell BK112.out 1).trans rfl; have hfz5_0 := blk_frozen BK112.out 0; have hfz5_1 := blk_frozen BK112.out 1) | (go_at_call 41; (with_reducible refine (vw_minus.calls a0_0 a0_1 t113 t114 _ A3.out).mono ?_); rintro e w6 ⟨rfl, hb⟩; have n0_ := Aside0.mk (blk_below (bk BK112.out) hb); have n1_ := Aside0.mk (below_step (by repeat (first | (with_reducible first | exact HB.out | apply below_alloc | apply pw_below_drewN | apply below_drew1 | refine below_set ?_ GE112.out) | exact HB.out)) hb); clear BK112; clear HB; have BK112 := n0_; have HB := n1_; clear n0_ n1_; (try clear hb); (try clear hb2); (try clear hk); (try clear hi); have hcz7_0 : w6.cell? ⟨gb112, 0, none⟩ = some (.int .i64 a0_0) := (blk_cell BK112.out 0).trans rfl; have hcz7_1 : w6.cell? ⟨gb112, 1, none⟩ = some (.int .u64 a0_1) := (blk_cell BK112.out 1).trans rfl; have hfz7_0 := blk_frozen BK112.out 0; have hfz7_1 := blk_frozen BK112.out 1))
  repeat (go_quiet (first | ((with_reducible refine gate_dst (N := 1) rfl ?_); refine box_event ?hg (N := 1) ?hd (cs := #[.int .i64 a0_0, .int .u64 a0_1]) (t := 49) ?hr ?_; (case hd => rfl); (case hg => rfl); (case hr => first | (go_simp; done) | (go_simp; rfl)); intro gb112 hg w4 hbox hb; have n0_ := Aside0.mk (below_step (bw HB.out) hb); have n1_ := Aside0.mk (hbox); have n2_ := Aside0.mk ((by rw [hg]; exact (below_size (bw HB.out)) : w.heap.size ≤ gb112)); have n3_ := Aside0.mk ((by rw [hg]; exact (below_size (bw HB.out)) : w.heap.size ≤ gb112)); clear HB; have HB := n0_; have BK112 := n1_; have GW112 := n2_; have GE112 := n3_; clear n0_ n1_ n2_ n3_; clear hb hbox hg; have hcz5_0 : w4.cell? ⟨gb112, 0, none⟩ = some (.int .i64 a0_0) := (blk_cell BK112.out 0).trans rfl; have hcz5_1 : w4.cell? ⟨gb112, 1, none⟩ = some (.int .u64 a0_1) := (blk_cell BK112.out 1).trans rfl; have hfz5_0 := blk_frozen BK112.out 0; have hfz5_1 := blk_frozen BK112.out 1) | (go_at_call 41; (with_reducible refine (vw_minus.calls a0_0 a0_1 t113 t114 _ A3.out).mono ?_); rintro e w6 ⟨rfl, hb⟩; have n0_ := Aside0.mk (blk_below (bk BK112.out) hb); have n1_ := Aside0.mk (below_step (by repeat (first | (with_reducible first | exact HB.out | apply below_alloc | apply pw_below_drewN | apply below_drew1 | refine below_set ?_ GE112.out) | exact HB.out)) hb); clear BK112; clear HB; have BK112 := n0_; have HB := n1_; clear n0_ n1_; (try clear hb); (try clear hb2); (try clear hk); (try clear hi); have hcz7_0 : w6.cell? ⟨gb112, 0, none⟩ = some (.int .i64 a0_0) := (blk_cell BK112.out 0).trans rfl; have hcz7_1 : w6.cell? ⟨gb112, 1, none⟩ = some (.int .u64 a0_1) := (blk_cell BK112.out 1).trans rfl; have hfz7_0 := blk_frozen BK112.out 0; have hfz7_1 := blk_frozen BK112.out 1)); try go_wp2_with (first | ((with_reducible refine gate_dst (N := 1) rfl ?_); refine box_event ?hg (N := 1) ?hd (cs := #[.int .i64 a0_0, .int .u64 a0_1]) (t := 49) ?hr ?_; (case hd => rfl); (case hg => rfl); (case hr => first | (go_simp; done) | (go_simp; rfl)); intro gb112 hg w4 hbox hb; have n0_ := Aside0.mk (below_step (bw HB.out) hb); have n1_ := Aside0.mk (hbox); have n2_ := Aside0.mk ((by rw [hg]; exact (below_size (bw HB.out)) : w.heap.size ≤ gb112)); have n3_ := Aside0.mk ((by rw [hg]; exact (below_size (bw HB.out)) : w.heap.size ≤ gb112)); clear HB; have HB := n0_; have BK112 := n1_; have GW112 := n2_; have GE112 := n3_; clear n0_ n1_ n2_ n3_; clear hb hbox hg; have hcz5_0 : w4.cell? ⟨gb112, 0, none⟩ = some (.int .i64 a0_0) := (blk_cell BK112.out 0).trans rfl; have hcz5_1 : w4.cell? ⟨gb112, 1, none⟩ = some (.int .u64 a0_1) := (blk_cell BK112.out 1).trans rfl; have hfz5_0 := blk_frozen BK112.out 0; have hfz5_1 := blk_frozen BK112.out 1) | (go_at_call 41; (with_reducible refine (vw_minus.calls a0_0 a0_1 t113 t114 _ A3.out).mono ?_); rintro e w6 ⟨rfl, hb⟩; have n0_ := Aside0.mk (blk_below (bk BK112.out) hb); have n1_ := Aside0.mk (below_step (by repeat (first | (with_reducible first | exact HB.out | apply below_alloc | apply pw_below_drewN | apply below_drew1 | refine below_set ?_ GE112.out) | exact HB.out)) hb); clear BK112; clear HB; have BK112 := n0_; have HB := n1_; clear n0_ n1_; (try clear hb); (try clear hb2); (try clear hk); (try clear hi); have hcz7_0 : w6.cell? ⟨gb112, 0, none⟩ = some (.int .i64 a0_0) := (blk_cell BK112.out 0).trans rfl; have hcz7_1 : w6.cell? ⟨gb112, 1, none⟩ = some (.int .u64 a0_1) := (blk_cell BK112.out 1).trans rfl; have hfz7_0 := blk_frozen BK112.out 0; have hfz7_1 := blk_frozen BK112.out 1)))
  go_ret3
  exact ⟨by first | rfl | (simp [errW_none, errW_some] <;> rfl) | (simp [*, errW_none, errW_some] <;> rfl), by repeat (first | (with_reducible first | exact HB.out | apply below_alloc | apply pw_below_drewN | apply below_drew1 | refine below_set ?_ GE112.out) | exact HB.out)⟩
 ·rw [if_neg c2] at H
  have c2b0 : decide (a0_0 < 0) = false := decide_eq_false c2
  clear c2
  simp only [Option.some.injEq, Prod.mk.injEq] at H
  obtain ⟨rfl, rfl, rfl⟩ := H
  go_enter Tryd.func61, Tryd.ntmps61
  go_wp2_with (first | ((with_reducible refine gate_dst (N := 1) rfl ?_); refine box_event ?hg (N := 1) ?hd (cs := #[.int .i64 a0_0, .int .u64 a0_1]) (t := 49) ?hr ?_; (case hd => rfl); (case hg => rfl); (case hr => first | (go_simp; done) | (go_simp; rfl)); intro gb112 hg w8 hbox hb; have n0_ := Aside0.mk (below_step (bw HB.out) hb); have n1_ := Aside0.mk (hbox); have n2_ := Aside0.mk ((by rw [hg]; exact (below_size (bw HB.out)) : w.heap.size ≤ gb112)); have n3_ := Aside0.mk ((by rw [hg]; exact (below_size (bw HB.out)) : w.heap.size ≤ gb112)); clear HB; have HB := n0_; have BK112 := n1_; have GW112 := n2_; have GE112 := n3_; clear n0_ n1_ n2_ n3_; clear hb hbox hg; have hcz9_0 : w8.cell? ⟨gb112, 0, none⟩ = some (.int .i64 a0_0) := (blk_cell BK112.out 0).trans rfl; have hcz9_1 : w8.cell? ⟨gb112, 1, none⟩ = some (.int .u64 a0_1) := (blk_cell BK112.out 1).trans rfl; have hfz9_0 := blk_frozen BK112.out 0; have hfz9_1 := blk_frozen BK112.out 1))
  repeat (go_quiet (first | ((with_reducible refine gate_dst (N := 1) rfl ?_); refine box_event ?hg (N := 1) ?hd (cs := #[.int .i64 a0_0, .int .u64 a0_1]) (t := 49) ?hr ?_; (case hd => rfl); (case hg => rfl); (case hr => first | (go_simp; done) | (go_simp; rfl)); intro gb112 hg w8 hbox hb; have n0_ := Aside0.mk (below_step (bw HB.out) hb); have n1_ := Aside0.mk (hbox); have n2_ := Aside0.mk ((by rw [hg]; exact (below_size (bw HB.out)) : w.heap.size ≤ gb112)); have n3_ := Aside0.mk ((by rw [hg]; exact (below_size (bw HB.out)) : w.heap.size ≤ gb112)); clear HB; have HB := n0_; have BK112 := n1_; have GW112 := n2_; have GE112 := n3_; clear n0_ n1_ n2_ n3_; clear hb hbox hg; have hcz9_0 : w8.cell? ⟨gb112, 0, none⟩ = some (.int .i64 a0_0) := (blk_cell BK112.out 0).trans rfl; have hcz9_1 : w8.cell? ⟨gb112, 1, none⟩ = some (.int .u64 a0_1) := (blk_cell BK112.out 1).trans rfl; have hfz9_0 := blk_frozen BK112.out 0; have hfz9_1 := blk_frozen BK112.out 1)); try go_wp2_with (first | ((with_reducible refine gate_dst (N := 1) rfl ?_); refine box_event ?hg (N := 1) ?hd (cs := #[.int .i64 a0_0, .int .u64 a0_1]) (t := 49) ?hr ?_; (case hd => rfl); (case hg => rfl); (case hr => first | (go_simp; done) | (go_simp; rfl)); intro gb112 hg w8 hbox hb; have n0_ := Aside0.mk (below_step (bw HB.out) hb); have n1_ := Aside0.mk (hbox); have n2_ := Aside0.mk ((by rw [hg]; exact (below_size (bw HB.out)) : w.heap.size ≤ gb112)); have n3_ := Aside0.mk ((by rw [hg]; exact (below_size (bw HB.out)) : w.heap.size ≤ gb112)); clear HB; have HB := n0_; have BK112 := n1_; have GW112 := n2_; have GE112 := n3_; clear n0_ n1_ n2_ n3_; clear hb hbox hg; have hcz9_0 : w8.cell? ⟨gb112, 0, none⟩ = some (.int .i64 a0_0) := (blk_cell BK112.out 0).trans rfl; have hcz9_1 : w8.cell? ⟨gb112, 1, none⟩ = some (.int .u64 a0_1) := (blk_cell BK112.out 1).trans rfl; have hfz9_0 := blk_frozen BK112.out 0; have hfz9_1 := blk_frozen BK112.out 1)))
  go_ret3
  exact ⟨by first | rfl | (simp [errW_none, errW_some] <;> rfl) | (simp [*, errW_none, errW_some] <;> rfl), by repeat (first | (with_reducible first | exact HB.out | apply below_alloc | apply pw_below_drewN | apply below_drew1 | refine below_set ?_ GE112.out) | exact HB.out)⟩
end Go.Proofs.YtbodlnoipkommaaDoor.Q
namespace Go.Proofs.YtbodlnoipkommaaDoor.Q
open Go.Proofs.YtbodlnoipkommaaDoor.We
open Go.RowKit Go.Proofs.YtbodlnoipkommaaDoorW.PrintWords Go.Proofs.YtbodlnoipkommaaDoorW.PrintLast Go.Proofs.YtbodlnoipkommaaDoorW.PrintMore
attribute [local go_sem] max2_int min2_int max_two min_two max_three min_three max_four min_four
set_option linter.unusedVariables false
set_option linter.unusedSimpArgs false
def value_times.f (a0 : Int) (a1 : Int) : Option (Int × Int) := (value_of.f a0).bind fun bt117 => ((vw_size.f bt117.1 bt117.2).bind fun bt119 => ((value_of.f a1).bind fun bt122 => ((vw_size.f bt122.1 bt122.2).bind fun bt124 => ((bits_Mul64.f bt119.2.1 bt124.2.1).bind fun bt127 => (if (bt119.2.2 != bt124.2.2) = true then ((vw_minus.f (wrap64 (bt127.1)) bt127.2).bind fun bt130 => (some (bt130.1, bt130.2))) else (some (wrap64 (bt127.1), bt127.2)))))))
set_option maxHeartbeats 8000000 in
set_option maxRecDepth 100000 in
theorem value_times.calls (a0 : Int) (a1 : Int) (r1 : Int) (r2 : Int) (w : World) (h : value_times.f a0 a1 = some (r1, r2)) :
  Calls Tryd.prog 59 #[.int .i64 a0, .int .i64 a1] w fun e w' => e = .returned (.agg #[.int .i64 r1, .int .u64 r2]) ∧ Below w.heap.size w w' := by
 have hu49 := Tryd.underlying49
 have HB := Aside0.mk (Below.refl w.heap.size w)
 have H : ((value_of.f a0).bind fun bt117 => ((vw_size.f bt117.1 bt117.2).bind fun bt119 => ((value_of.f a1).bind fun bt122 => ((vw_size.f bt122.1 bt122.2).bind fun bt124 => ((bits_Mul64.f bt119.2.1 bt124.2.1).bind fun bt127 => (if (bt119.2.2 != bt124.2.2) = true then ((vw_minus.f (wrap64 (bt127.1)) bt127.2).bind fun bt130 => (some (bt130.1, bt130.2))) else (some (wrap64 (bt127.1), bt127.2)))))))) = some (r1, r2) := h
 clear h
 replace H := Option.bind_eq_some_iff.mp H
 obtain ⟨⟨t117, t118⟩, A30, H⟩ := H
 replace H : ((vw_size.f t117 t118).bind fun bt119 => ((value_of.f a1).bind fun bt122 => ((vw_size.f bt122.1 bt122.2).bind fun bt124 => ((bits_Mul64.f bt119.2.1 bt124.2.1).bind fun bt127 => (if (bt119.2.2 != bt124.2.2) = true then ((vw_minus.f (wrap64 (bt127.1)) bt127.2).bind fun bt130 => (some (bt130.1, bt130.2))) else (some (wrap64 (bt127.1), bt127.2))))))) = some (r1, r2) := H
 have A3 := Aside0.mk A30
 clear A30
 replace H := Option.bind_eq_some_iff.mp H
 obtain ⟨⟨t119, t120, t121⟩, A40, H⟩ := H
 replace H : ((value_of.f a1).bind fun bt122 => ((vw_size.f bt122.1 bt122.2).bind fun bt124 => ((bits_Mul64.f t120 bt124.2.1).bind fun bt127 => (if (t121 != bt124.2.2) = true then ((vw_minus.f (wrap64 (bt127.1)) bt127.2).bind fun bt130 => (some (bt130.1, bt130.2))) else (some (wrap64 (bt127.1), bt127.2)))))) = some (r1, r2) := H
 have A4 := Aside0.mk A40
 clear A40
 replace H := Option.bind_eq_some_iff.mp H
 obtain ⟨⟨t122, t123⟩, A50, H⟩ := H
 replace H : ((vw_size.f t122 t123).bind fun bt124 => ((bits_Mul64.f t120 bt124.2.1).bind fun bt127 => (if (t121 != bt124.2.2) = true then ((vw_minus.f (wrap64 (bt127.1)) bt127.2).bind fun bt130 => (some (bt130.1, bt130.2))) else (some (wrap64 (bt127.1), bt127.2))))) = some (r1, r2) := H
 have A5 := Aside0.mk A50
 clear A50
 replace H := Option.bind_eq_some_iff.mp H
 obtain ⟨⟨t124, t125, t126⟩, A60, H⟩ := H
 replace H : ((bits_Mul64.f t120 t125).bind fun bt127 => (if (t121 != t126) = true then ((vw_minus.f (wrap64 (bt127.1)) bt127.2).bind fun bt130 => (some (bt130.1, bt130.2))) else (some (wrap64 (bt127.1), bt127.2)))) = some (r1, r2) := H
 have A6 := Aside0.mk A60
 clear A60
 replace H := Option.bind_eq_some_iff.mp H
 obtain ⟨⟨t127, t128⟩, A70, H⟩ := H
 replace H : (if (t121 != t126) = true then ((vw_minus.f (wrap64 (t127)) t128).bind fun bt130 => (some (bt130.1, bt130.2))) else (some (wrap64 (t127), t128))) = some (r1, r2) := H
 have A7 := Aside0.mk A70
 clear A70
 by_cases c8 : (t121 != t126) = true
 ·rw [if_pos c8] at H
  have c8b0 : (t121 != t126) = true := c8
  (try (have c8b1 : decide (t121 = t126) = false := by simpa using c8))
  (try (have c8b2 : (t121 == t126) = false := by simpa using c8))
  (try (have c8b3 : ¬ (t121 = t126) := by simpa using c8))
  clear c8
  replace H := Option.bind_eq_some_iff.mp H
  obtain ⟨⟨t130, t131⟩, A90, H⟩ := H
  replace H : (some (t130, t131)) = some (r1, r2) := H
  have A9 := Aside0.mk A90
  clear A90
  simp only [Option.some.injEq, Prod.mk.injEq] at H
  obtain ⟨rfl, rfl⟩ := H
  go_enter Tryd.func59, Tryd.ntmps59
  go_wp2_with (first | ((with_reducible refine gate_dst (N := 4) rfl ?_); refine box_event ?hg (N := 4) ?hd (cs := #[.int .i64 0, .int .u64 0]) (t := 49) ?hr ?_; (case hd => rfl); (case hg => rfl); (case hr => first | (go_simp; done) | (go_simp; rfl)); intro gb116 hg w10 hbox hb; have n0_ := Aside0.mk (below_step (bw HB.out) hb); have n1_ := Aside0.mk (hbox); have n2_ := Aside0.mk ((by rw [hg]; exact (below_size (bw HB.out)) : w.heap.size ≤ gb116)); have n3_ := Aside0.mk ((by rw [hg]; exact (below_size (bw HB.out)) : w.heap.size ≤ gb116)); clear HB; have HB := n0_; have BK116 := n1_; have GW116 := n2_; have GE116 := n3_; clear n0_ n1_ n2_ n3_; clear hb hbox hg) | ((with_reducible refine gate_callee (f := 63) rfl ?_); refine goesL_ (some 16) rfl rfl Tryd.func63 (by kernel_rfl) rfl #[.int .i64 a0] rfl (by (try simp only [List.map_toArray, List.map_cons, List.map_nil]); first | done | rfl | (simp only [List.length_drop, List.length_take]; rfl)) ?_; (with_reducible refine (value_of.calls a0 t117 t118 _ A3.out).mono ?_); rintro e w11 ⟨rfl, hb⟩; refine ⟨_, rfl, ?_⟩; have n0_ := Aside0.mk (blk_below (bk BK116.out) hb); have n1_ := Aside0.mk (below_step (by repeat (first | (with_reducible first | exact HB.out | apply below_alloc | apply pw_below_drewN | apply below_drew1 | refine below_set ?_ GE116.out) | exact HB.out)) hb); clear BK116; clear HB; have BK116 := n0_; have HB := n1_; clear n0_ n1_; (try clear hb); (try clear hb2); (try clear hk); (try clear hi)) | ((with_reducible refine gate_callee (f := 61) rfl ?_); refine goesL_ (some 17) rfl rfl Tryd.func61 (by kernel_rfl) rfl #[.agg #[.int .i64 t117, .int .u64 t118]] rfl (by (try simp only [List.map_toArray, List.map_cons, List.map_nil]); first | done | rfl | (simp only [List.length_drop, List.length_take]; rfl)) ?_; (with_reducible refine (vw_size.calls t117 t118 t119 t120 t121 _ A4.out).mono ?_); rintro e w12 ⟨rfl, hb⟩; refine ⟨_, rfl, ?_⟩; have n0_ := Aside0.mk (blk_below (bk BK116.out) hb); have n1_ := Aside0.mk (below_step (by repeat (first | (with_reducible first | exact HB.out | apply below_alloc | apply pw_below_drewN | apply below_drew1 | refine below_set ?_ GE116.out) | exact HB.out)) hb); clear BK116; clear HB; have BK116 := n0_; have HB := n1_; clear n0_ n1_; (try clear hb); (try clear hb2); (try clear hk); (try clear hi)) | ((with_reducible refine gate_callee (f := 63) rfl ?_); refine goesL_ (some 23) rfl rfl Tryd.func63 (by kernel_rfl) rfl #[.int .i64 a1] rfl (by (try simp only [List.map_toArray, List.map_cons, List.map_nil]); first | done | rfl | (simp only [List.length_drop, List.length_take]; rfl)) ?_; (with_reducible refine (value_of.calls a1 t122 t123 _ A5.out).mono ?_); rintro e w13 ⟨rfl, hb⟩; refine ⟨_, rfl, ?_⟩; have n0_ := Aside0.mk (blk_below (bk BK116.out) hb); have n1_ := Aside0.mk (below_step (by repeat (first | (with_reducible first | exact HB.out | apply below_alloc | apply pw_below_drewN | apply below_drew1 | refine below_set ?_ GE116.out) | exact HB.out)) hb); clear BK116; clear HB; have BK116 := n0_; have HB := n1_; clear n0_ n1_; (try clear hb); (try clear hb2); (try clear hk); (try clear hi)) | ((with_reducible refine gate_callee (f := 61) rfl ?_); refine goesL_ (some 24) rfl rfl Tryd.func61 (by kernel_rfl) rfl #[.agg #[.int .i64 t122, .int .u64 t123]] rfl (by (try simp only [List.map_toArray, List.map_cons, List.map_nil]); first | done | rfl | (simp only [List.length_drop, List.length_take]; rfl)) ?_; (with_reducible refine (vw_size.calls t122 t123 t124 t125 t126 _ A6.out).mono ?_); rintro e w14 ⟨rfl, hb⟩; refine ⟨_, rfl, ?_⟩; have n0_ := Aside0.mk (blk_below (bk BK116.out) hb); have n1_ := Aside0.mk (below_step (by repeat (first | (with_reducible first | exact HB.out | apply below_alloc | apply pw_below_drewN | apply below_drew1 | refine below_set ?_ GE116.out) | exact HB.out)) hb); clear BK116; clear HB; have BK116 := n0_; have HB := n1_; clear n0_ n1_; (try clear hb); (try clear hb2); (try clear hk); (try clear hi)) | ((with_reducible refine gate_callee (f := 85) rfl ?_); refine goesL_ (some 31) rfl rfl Tryd.func85 (by kernel_rfl) rfl #[.int .u64 t120, .int .u64 t125] rfl (by (try simp only [List.map_toArray, List.map_cons, List.map_nil]); first | done | rfl | (simp only [List.length_drop, List.length_take]; rfl)) ?_; (with_reducible refine (bits_Mul64.calls t120 t125 t127 t128 _ A7.out).mono ?_); rintro e w' ⟨rfl, ⟨nd, rfl⟩⟩; refine ⟨_, rfl, ?_⟩; (try (rw [drewN_self w14]; generalize hq_ : World.drewN w14 _ = w14; have n0_ : Aside0 (w14.heap[gb116]? = some (.cells #[.int .i64 0, .int .u64 0] 49 (0, 0))) := ⟨by rw [← hq_]; exact (bk BK116.out)⟩; have n1_ : Aside0 (Below w.heap.size w w14) := ⟨by rw [← hq_]; exact (by repeat (first | (with_reducible first | exact HB.out | apply below_alloc | apply pw_below_drewN | apply below_drew1 | refine below_set ?_ GE116.out) | exact HB.out))⟩; clear BK116 HB hq_; have BK116 := n0_; have HB := n1_; clear n0_ n1_))) | ((with_reducible refine gate_dst (N := 13) rfl ?_); refine box_event ?hg (N := 13) ?hd (cs := #[.int .i64 0, .int .u64 0]) (t := 49) ?hr ?_; (case hd => rfl); (case hg => rfl); (case hr => first | (go_simp; done) | (go_simp; rfl)); intro gb129 hg w15 hbox hb; have n0_ := Aside0.mk (blk_below (bk BK116.out) hb); have n1_ := Aside0.mk (below_step (by repeat (first | (with_reducible first | exact HB.out | apply below_alloc | apply pw_below_drewN | apply below_drew1 | refine below_set ?_ GE116.out) | exact HB.out)) hb); have n2_ := Aside0.mk (hbox); have n3_ := Aside0.mk ((by rw [hg]; exact (below_size (by repeat (first | (with_reducible first | exact HB.out | apply below_alloc | apply pw_below_drewN | apply below_drew1 | refine below_set ?_ GE116.out) | exact HB.out))) : w.heap.size ≤ gb129)); have n4_ := Aside0.mk ((by rw [hg]; exact (below_size (by repeat (first | (with_reducible first | exact HB.out | apply below_alloc | apply pw_below_drewN | apply below_drew1 | refine below_set ?_ GE116.out) | exact HB.out))) : w.heap.size ≤ gb129)); have n5_ := Aside0.mk ((by rw [hg]; exact Nat.ne_of_lt (blk_lt (g := gb116) (o := .cells #[.int .i64 0, .int .u64 0] 49 (0, 0)) (bk BK116.out)) : gb116 ≠ gb129)); have n6_ := Aside0.mk ((by rw [hg]; exact Nat.ne_of_gt (blk_lt (g := gb116) (o := .cells #[.int .i64 0, .int .u64 0] 49 (0, 0)) (bk BK116.out)) : gb129 ≠ gb116)); clear BK116; clear HB; have BK116 := n0_; have HB := n1_; have BK129 := n2_; have GW129 := n3_; have GE129 := n4_; have NB116_129 := n5_; have NB129_116 := n6_; clear n0_ n1_ n2_ n3_ n4_ n5_ n6_; clear hb hbox hg; have hnb16 := NB129_116.out; have hnc16 := NB116_129.out; have hcz17_0 : w15.cell? ⟨gb129, 0, none⟩ = some (.int .i64 0) := (blk_cell BK129.out 0).trans rfl; have hcz17_1 : w15.cell? ⟨gb129, 1, none⟩ = some (.int .u64 0) := (blk_cell BK129.out 1).trans rfl; have hfz17_0 := blk_frozen BK129.out 0; have hfz17_1 := blk_frozen BK129.out 1) | ((with_reducible refine gate_callee (f := 41) rfl ?_); refine goesL_ (some 42) rfl rfl Tryd.func41 (by kernel_rfl) rfl #[.agg #[.int .i64 (wrap64 (t127)), .int .u64 t128]] rfl (by (try simp only [List.map_toArray, List.map_cons, List.map_nil]); first | done | rfl | (simp only [List.length_drop, List.length_take]; rfl)) ?_; (with_reducible refine (vw_minus.calls (wrap64 (t127)) t128 t130 t131 _ A9.out).mono ?_); rintro e w18 ⟨rfl, hb⟩; refine ⟨_, rfl, ?_⟩; have n0_ := Aside0.mk (blk_below (g := gb116) (o := .cells #[.int .i64 0, .int .u64 0] 49 (0, 0)) (by (with_reducible repeat (first | refine blk_drewN ?_ _ | refine blk_drew ?_ | refine blk_alloc ?_ _ | refine blk_far ?_ NB116_129.out _)); exact BK116.out) hb); have n1_ := Aside0.mk (blk_below (g := gb129) (o := .cells #[.int .i64 (wrap64 (t127)), .int .u64 t128] 49 (0, 0)) (by (with_reducible repeat first | apply blk_drewN | apply blk_drew | apply blk_alloc); refine blk_put (cs := #[.int .i64 (wrap64 (t127)), .int .u64 0]) ?_ 1 _ rfl; refine blk_put (cs := #[.int .i64 0, .int .u64 0]) ?_ 0 _ rfl; (with_reducible repeat first | apply blk_drewN | apply blk_drew | apply blk_alloc); exact BK129.out) hb); have n2_ := Aside0.mk (below_step (by repeat (first | (with_reducible first | exact HB.out | apply below_alloc | apply pw_below_drewN | apply below_drew1 | refine below_set ?_ (Aside0.out (by assumption))) | exact HB.out)) hb); clear BK116; clear BK129; clear HB; have BK116 := n0_; have BK129 := n1_; have HB := n2_; clear n0_ n1_ n2_; (try clear hb); (try clear hb2); (try clear hk); (try clear hi); have hcz19_0 : w18.cell? ⟨gb116, 0, none⟩ = some (.int .i64 0) := (blk_cell BK116.out 0).trans rfl; have hcz19_1 : w18.cell? ⟨gb116, 1, none⟩ = some (.int .u64 0) := (blk_cell BK116.out 1).trans rfl; have hfz19_0 := blk_frozen BK116.out 0; have hfz19_1 := blk_frozen BK116.out 1))
  refine bodyPost_ret (results_cell_row rfl _ _ gb116 49 #[.int .i64 t130, .int .u64 t131] (0, 0) _ rfl (by (with_reducible repeat first | apply blk_drewN | apply blk_drew | apply blk_alloc); refine blk_put (cs := #[.int .i64 t130, .int .u64 0]) ?_ 1 _ rfl; refine blk_put (cs := #[.int .i64 0, .int .u64 0]) ?_ 0 _ rfl; (with_reducible repeat first | apply blk_drewN | apply blk_drew | apply blk_alloc); exact BK116.out) Tryd.underlying49 rfl (by kernel_rfl)) rfl ?_
  exact ⟨by first | rfl | (simp [errW_none, errW_some] <;> rfl) | (simp [*, errW_none, errW_some] <;> rfl), by repeat (first | (with_reducible first | exact HB.out | apply below_alloc | apply pw_below_drewN | apply below_drew1 | refine below_set ?_ (Aside0.out (by assumption))) | exact HB.out)⟩
 ·rw [if_neg c8] at H
  have c8b0 : (t121 != t126) = false := by simpa using c8
  (try (have c8b1 : decide (t121 = t126) = true := by simpa using c8))
  (try (have c8b2 : (t121 == t126) = true := by simpa using c8))
  clear c8
  simp only [Option.some.injEq, Prod.mk.injEq] at H
  obtain ⟨rfl, rfl⟩ := H
  go_enter Tryd.func59, Tryd.ntmps59
  go_wp2_with (first | ((with_reducible refine gate_dst (N := 4) rfl ?_); refine box_event ?hg (N := 4) ?hd (cs := #[.int .i64 0, .int .u64 0]) (t := 49) ?hr ?_; (case hd => rfl); (case hg => rfl); (case hr => first | (go_simp; done) | (go_simp; rfl)); intro gb116 hg w20 hbox hb; have n0_ := Aside0.mk (below_step (bw HB.out) hb); have n1_ := Aside0.mk (hbox); have n2_ := Aside0.mk ((by rw [hg]; exact (below_size (bw HB.out)) : w.heap.size ≤ gb116)); have n3_ := Aside0.mk ((by rw [hg]; exact (below_size (bw HB.out)) : w.heap.size ≤ gb116)); clear HB; have HB := n0_; have BK116 := n1_; have GW116 := n2_; have GE116 := n3_; clear n0_ n1_ n2_ n3_; clear hb hbox hg) | ((with_reducible refine gate_callee (f := 63) rfl ?_); refine goesL_ (some 16) rfl rfl Tryd.func63 (by kernel_rfl) rfl #[.int .i64 a0] rfl (by (try simp only [List.map_toArray, List.map_cons, List.map_nil]); first | done | rfl | (simp only [List.length_drop, List.length_take]; rfl)) ?_; (with_reducible refine (value_of.calls a0 t117 t118 _ A3.out).mono ?_); rintro e w21 ⟨rfl, hb⟩; refine ⟨_, rfl, ?_⟩; have n0_ := Aside0.mk (blk_below (bk BK116.out) hb); have n1_ := Aside0.mk (below_step (by repeat (first | (with_reducible first | exact HB.out | apply below_alloc | apply pw_below_drewN | apply below_drew1 | refine below_set ?_ GE116.out) | exact HB.out)) hb); clear BK116; clear HB; have BK116 := n0_; have HB := n1_; clear n0_ n1_; (try clear hb); (try clear hb2); (try clear hk); (try clear hi)) | ((with_reducible refine gate_callee (f := 61) rfl ?_); refine goesL_ (some 17) rfl rfl Tryd.func61 (by kernel_rfl) rfl #[.agg #[.int .i64 t117, .int .u64 t118]] rfl (by (try simp only [List.map_toArray, List.map_cons, List.map_nil]); first | done | rfl | (simp only [List.length_drop, List.length_take]; rfl)) ?_; (with_reducible refine (vw_size.calls t117 t118 t119 t120 t121 _ A4.out).mono ?_); rintro e w22 ⟨rfl, hb⟩; refine ⟨_, rfl, ?_⟩; have n0_ := Aside0.mk (blk_below (bk BK116.out) hb); have n1_ := Aside0.mk (below_step (by repeat (first | (with_reducible first | exact HB.out | apply below_alloc | apply pw_below_drewN | apply below_drew1 | refine below_set ?_ GE116.out) | exact HB.out)) hb); clear BK116; clear HB; have BK116 := n0_; have HB := n1_; clear n0_ n1_; (try clear hb); (try clear hb2); (try clear hk); (try clear hi)) | ((with_reducible refine gate_callee (f := 63) rfl ?_); refine goesL_ (some 23) rfl rfl Tryd.func63 (by kernel_rfl) rfl #[.int .i64 a1] rfl (by (try simp only [List.map_toArray, List.map_cons, List.map_nil]); first | done | rfl | (simp only [List.length_drop, List.length_take]; rfl)) ?_; (with_reducible refine (value_of.calls a1 t122 t123 _ A5.out).mono ?_); rintro e w23 ⟨rfl, hb⟩; refine ⟨_, rfl, ?_⟩; have n0_ := Aside0.mk (blk_below (bk BK116.out) hb); have n1_ := Aside0.mk (below_step (by repeat (first | (with_reducible first | exact HB.out | apply below_alloc | apply pw_below_drewN | apply below_drew1 | refine below_set ?_ GE116.out) | exact HB.out)) hb); clear BK116; clear HB; have BK116 := n0_; have HB := n1_; clear n0_ n1_; (try clear hb); (try clear hb2); (try clear hk); (try clear hi)) | ((with_reducible refine gate_callee (f := 61) rfl ?_); refine goesL_ (some 24) rfl rfl Tryd.func61 (by kernel_rfl) rfl #[.agg #[.int .i64 t122, .int .u64 t123]] rfl (by (try simp only [List.map_toArray, List.map_cons, List.map_nil]); first | done | rfl | (simp only [List.length_drop, List.length_take]; rfl)) ?_; (with_reducible refine (vw_size.calls t122 t123 t124 t125 t126 _ A6.out).mono ?_); rintro e w24 ⟨rfl, hb⟩; refine ⟨_, rfl, ?_⟩; have n0_ := Aside0.mk (blk_below (bk BK116.out) hb); have n1_ := Aside0.mk (below_step (by repeat (first | (with_reducible first | exact HB.out | apply below_alloc | apply pw_below_drewN | apply below_drew1 | refine below_set ?_ GE116.out) | exact HB.out)) hb); clear BK116; clear HB; have BK116 := n0_; have HB := n1_; clear n0_ n1_; (try clear hb); (try clear hb2); (try clear hk); (try clear hi)) | ((with_reducible refine gate_callee (f := 85) rfl ?_); refine goesL_ (some 31) rfl rfl Tryd.func85 (by kernel_rfl) rfl #[.int .u64 t120, .int .u64 t125] rfl (by (try simp only [List.map_toArray, List.map_cons, List.map_nil]); first | done | rfl | (simp only [List.length_drop, List.length_take]; rfl)) ?_; (with_reducible refine (bits_Mul64.calls t120 t125 t127 t128 _ A7.out).mono ?_); rintro e w' ⟨rfl, ⟨nd, rfl⟩⟩; refine ⟨_, rfl, ?_⟩; (try (rw [drewN_self w24]; generalize hq_ : World.drewN w24 _ = w24; have n0_ : Aside0 (w24.heap[gb116]? = some (.cells #[.int .i64 0, .int .u64 0] 49 (0, 0))) := ⟨by rw [← hq_]; exact (bk BK116.out)⟩; have n1_ : Aside0 (Below w.heap.size w w24) := ⟨by rw [← hq_]; exact (by repeat (first | (with_reducible first | exact HB.out | apply below_alloc | apply pw_below_drewN | apply below_drew1 | refine below_set ?_ GE116.out) | exact HB.out))⟩; clear BK116 HB hq_; have BK116 := n0_; have HB := n1_; clear n0_ n1_))) | ((with_reducible refine gate_dst (N := 13) rfl ?_); refine box_event ?hg (N := 13) ?hd (cs := #[.int .i64 0, .int .u64 0]) (t := 49) ?hr ?_; (case hd => rfl); (case hg => rfl); (case hr => first | (go_simp; done) | (go_simp; rfl)); intro gb129 hg w25 hbox hb; have n0_ := Aside0.mk (blk_below (bk BK116.out) hb); have n1_ := Aside0.mk (below_step (by repeat (first | (with_reducible first | exact HB.out | apply below_alloc | apply pw_below_drewN | apply below_drew1 | refine below_set ?_ GE116.out) | exact HB.out)) hb); have n2_ := Aside0.mk (hbox); have n3_ := Aside0.mk ((by rw [hg]; exact (below_size (by repeat (first | (with_reducible first | exact HB.out | apply below_alloc | apply pw_below_drewN | apply below_drew1 | refine below_set ?_ GE116.out) | exact HB.out))) : w.heap.size ≤ gb129)); have n4_ := Aside0.mk ((by rw [hg]; exact (below_size (by repeat (first | (with_reducible first | exact HB.out | apply below_alloc | apply pw_below_drewN | apply below_drew1 | refine below_set ?_ GE116.out) | exact HB.out))) : w.heap.size ≤ gb129)); have n5_ := Aside0.mk ((by rw [hg]; exact Nat.ne_of_lt (blk_lt (g := gb116) (o := .cells #[.int .i64 0, .int .u64 0] 49 (0, 0)) (bk BK116.out)) : gb116 ≠ gb129)); have n6_ := Aside0.mk ((by rw [hg]; exact Nat.ne_of_gt (blk_lt (g := gb116) (o := .cells #[.int .i64 0, .int .u64 0] 49 (0, 0)) (bk BK116.out)) : gb129 ≠ gb116)); clear BK116; clear HB; have BK116 := n0_; have HB := n1_; have BK129 := n2_; have GW129 := n3_; have GE129 := n4_; have NB116_129 := n5_; have NB129_116 := n6_; clear n0_ n1_ n2_ n3_ n4_ n5_ n6_; clear hb hbox hg; have hnb26 := NB129_116.out; have hnc26 := NB116_129.out; have hcz27_0 : w25.cell? ⟨gb129, 0, none⟩ = some (.int .i64 0) := (blk_cell BK129.out 0).trans rfl; have hcz27_1 : w25.cell? ⟨gb129, 1, none⟩ = some (.int .u64 0) := (blk_cell BK129.out 1).trans rfl; have hfz27_0 := blk_frozen BK129.out 0; have hfz27_1 := blk_frozen BK129.out 1; have hcz28_0 : w25.cell? ⟨gb116, 0, none⟩ = some (.int .i64 0) := (blk_cell BK116.out 0).trans rfl; have hcz28_1 : w25.cell? ⟨gb116, 1, none⟩ = some (.int .u64 0) := (blk_cell BK116.out 1).trans rfl; have hfz28_0 := blk_frozen BK116.out 0; have hfz28_1 := blk_frozen BK116.out 1))
  refine bodyPost_ret (results_cell_row rfl _ _ gb116 49 #[.int .i64 (wrap64 (t127)), .int .u64 t128] (0, 0) _ rfl (by (with_reducible repeat first | apply blk_drewN | apply blk_drew | apply blk_alloc); refine blk_put (cs := #[.int .i64 (wrap64 (t127)), .int .u64 0]) ?_ 1 _ rfl; refine blk_put (cs := #[.int .i64 0, .int .u64 0]) ?_ 0 _ rfl; (with_reducible repeat (first | refine blk_drewN ?_ _ | refine blk_drew ?_ | refine blk_alloc ?_ _ | refine blk_far ?_ NB116_129.out _)); exact BK116.out) Tryd.underlying49 rfl (by kernel_rfl)) rfl ?_
  exact ⟨by first | rfl | (simp [errW_none, errW_some] <;> rfl) | (simp [*, errW_none, errW_some] <;> rfl), by repeat (first | (with_reducible first | exact HB.out | apply below_alloc | apply pw_below_drewN | apply below_drew1 | refine below_set ?_ (Aside0.out (by assumption))) | exact HB.out)⟩
end Go.Proofs.YtbodlnoipkommaaDoor.Q
namespace Go.Proofs.YtbodlnoipkommaaDoor.Q
open Go.RowKit Go.Proofs.YtbodlnoipkommaaDoorW.PrintWords Go.Proofs.YtbodlnoipkommaaDoorW.PrintLast Go.Proofs.YtbodlnoipkommaaDoorW.PrintMore
attribute [local go_sem] max2_int min2_int max_two min_two max_three min_three max_four min_four
set_option linter.unusedVariables false
set_option linter.unusedSimpArgs false
def value_fixed.f (a0_0 : Int) (a0_1 : Int) (a0_2 : ByteArray) : Option (Int × Int) := if a0_0 = 2 then ((value_times.f a0_1 10000).bind fun bt134 => (some (bt134.1, bt134.2))) else ((value_of.f a0_1).bind fun bt136 => (some (bt136.1, bt136.2)))
set_option maxHeartbeats 8000000 in
set_option maxRecDepth 100000 in
theorem value_fixed.calls (a0_0 : Int) (a0_1 : Int) (a0_2 : ByteArray) (r1 : Int) (r2 : Int) (w : World) (h : value_fixed.f a0_0 a0_1 a0_2 = some (r1, r2)) :
  Calls Tryd.prog 39 #[.agg #[.int .u8 a0_0, .int .i64 a0_1, .string a0_2]] w fun e w' => e = .returned (.agg #[.int .i64 r1, .int .u64 r2]) ∧ Below w.heap.size w w' := by
 have hu25 := Tryd.underlying25
 have hu49 := Tryd.underlying49
 have HB := Aside0.mk (Below.refl w.heap.size w)
 have H : (if a0_0 = 2 then ((value_times.f a0_1 10000).bind fun bt134 => (some (bt134.1, bt134.2))) else ((value_of.f a0_1).bind fun bt136 => (some (bt136.1, bt136.2)))) = some (r1, r2) := h
 clear h
 by_cases c2 : a0_0 = 2
 ·rw [if_pos c2] at H
  have c2b0 : (a0_0 == 2) = true := beq_iff_eq.mpr c2
  have c2b1 : (a0_0 != 2) = false := bne_eq_false_iff_eq.mpr c2
  clear c2
  replace H := Option.bind_eq_some_iff.mp H
  obtain ⟨⟨t134, t135⟩, A30, H⟩ := H
  replace H : (some (t134, t135)) = some (r1, r2) := H
  have A3 := Aside0.mk A30
  clear A30
  simp only [Option.some.injEq, Prod.mk.injEq] at H
  obtain ⟨rfl, rfl⟩ := H
  go_enter Tryd.func39, Tryd.ntmps39
  go_wp2_with (first | ((with_reducible refine gate_dst (N := 1) rfl ?_); refine box_event ?hg (N := 1) ?hd (cs := #[.int .u8 a0_0, .int .i64 a0_1, .string a0_2]) (t := 25) ?hr ?_; (case hd => rfl); (case hg => rfl); (case hr => first | (go_simp; done) | (go_simp; rfl)); intro gb132 hg w4 hbox hb; have n0_ := Aside0.mk (below_step (bw HB.out) hb); have n1_ := Aside0.mk (hbox); have n2_ := Aside0.mk ((by rw [hg]; exact (below_size (bw HB.out)) : w.heap.size ≤ gb132)); have n3_ := Aside0.mk ((by rw [hg]; exact (below_size (bw HB.out)) : w.heap.size ≤ gb132)); clear HB; have HB := n0_; have BK132 := n1_; have GW132 := n2_; have GE132 := n3_; clear n0_ n1_ n2_ n3_; clear hb hbox hg) | ((with_reducible refine gate_dst (N := 2) rfl ?_); refine box_event ?hg (N := 2) ?hd (cs := #[.int .i64 0, .int .u64 0]) (t := 49) ?hr ?_; (case hd => rfl); (case hg => rfl); (case hr => first | (go_simp; done) | (go_simp; rfl)); intro gb133 hg w5 hbox hb; have n0_ := Aside0.mk (blk_below (bk BK132.out) hb); have n1_ := Aside0.mk (below_step (by repeat (first | (with_reducible first | exact HB.out | apply below_alloc | apply pw_below_drewN | apply below_drew1 | refine below_set ?_ GE132.out) | exact HB.out)) hb); have n2_ := Aside0.mk (hbox); have n3_ := Aside0.mk ((by rw [hg]; exact (below_size (by repeat (first | (with_reducible first | exact HB.out | apply below_alloc | apply pw_below_drewN | apply below_drew1 | refine below_set ?_ GE132.out) | exact HB.out))) : w.heap.size ≤ gb133)); have n4_ := Aside0.mk ((by rw [hg]; exact (below_size (by repeat (first | (with_reducible first | exact HB.out | apply below_alloc | apply pw_below_drewN | apply below_drew1 | refine below_set ?_ GE132.out) | exact HB.out))) : w.heap.size ≤ gb133)); have n5_ := Aside0.mk ((by rw [hg]; exact Nat.ne_of_lt (blk_lt (g := gb132) (o := .cells #[.int .u8 a0_0, .int .i64 a0_1, .string a0_2] 25 (0, 0)) (bk BK132.out)) : gb132 ≠ gb133)); have n6_ := Aside0.mk ((by rw [hg]; exact Nat.ne_of_gt (blk_lt (g := gb132) (o := .cells #[.int .u8 a0_0, .int .i64 a0_1, .string a0_2] 25 (0, 0)) (bk BK132.out)) : gb133 ≠ gb132)); clear BK132; clear HB; have BK132 := n0_; have HB := n1_; have BK133 := n2_; have GW133 := n3_; have GE133 := n4_; have NB132_133 := n5_; have NB133_132 := n6_; clear n0_ n1_ n2_ n3_ n4_ n5_ n6_; clear hb hbox hg; have hnb6 := NB132_133.out; have hnc6 := NB133_132.out; have hcz7_0 : w5.cell? ⟨gb132, 0, none⟩ = some (.int .u8 a0_0) := (blk_cell BK132.out 0).trans rfl; have hcz7_1 : w5.cell? ⟨gb132, 1, none⟩ = some (.int .i64 a0_1) := (blk_cell BK132.out 1).trans rfl; have hcz7_2 : w5.cell? ⟨gb132, 2, none⟩ = some (.string a0_2) := (blk_cell BK132.out 2).trans rfl; have hfz7_0 := blk_frozen BK132.out 0; have hfz7_1 := blk_frozen BK132.out 1; have hfz7_2 := blk_frozen BK132.out 2) | ((with_reducible refine gate_callee (f := 59) rfl ?_); refine goesL_ (some 8) rfl rfl Tryd.func59 (by kernel_rfl) rfl #[.int .i64 a0_1, .int .i64 10000] rfl (by (try simp only [List.map_toArray, List.map_cons, List.map_nil]); first | done | rfl | (simp only [List.length_drop, List.length_take]; rfl)) ?_; (with_reducible refine (value_times.calls a0_1 10000 t134 t135 _ A3.out).mono ?_); rintro e w8 ⟨rfl, hb⟩; refine ⟨_, rfl, ?_⟩; have n0_ := Aside0.mk (blk_below (bk BK132.out) hb); have n1_ := Aside0.mk (blk_below (bk BK133.out) hb); have n2_ := Aside0.mk (below_step (by repeat (first | (with_reducible first | exact HB.out | apply below_alloc | apply pw_below_drewN | apply below_drew1 | refine below_set ?_ (Aside0.out (by assumption))) | exact HB.out)) hb); clear BK132; clear BK133; clear HB; have BK132 := n0_; have BK133 := n1_; have HB := n2_; clear n0_ n1_ n2_; (try clear hb); (try clear hb2); (try clear hk); (try clear hi); have hcz9_0 : w8.cell? ⟨gb133, 0, none⟩ = some (.int .i64 0) := (blk_cell BK133.out 0).trans rfl; have hcz9_1 : w8.cell? ⟨gb133, 1, none⟩ = some (.int .u64 0) := (blk_cell BK133.out 1).trans rfl; have hfz9_0 := blk_frozen BK133.out 0; have hfz9_1 := blk_frozen BK133.out 1))
  refine bodyPost_ret (results_cell_row rfl _ _ gb133 49 #[.int .i64 t134, .int .u64 t135] (0, 0) _ rfl (by (with_reducible repeat first | apply blk_drewN | apply blk_drew | apply blk_alloc); refine blk_put (cs := #[.int .i64 t134, .int .u64 0]) ?_ 1 _ rfl; refine blk_put (cs := #[.int .i64 0, .int .u64 0]) ?_ 0 _ rfl; (with_reducible repeat first | apply blk_drewN | apply blk_drew | apply blk_alloc); exact BK133.out) Tryd.underlying49 rfl (by kernel_rfl)) rfl ?_
  exact ⟨by first | rfl | (simp [errW_none, errW_some] <;> rfl) | (simp [*, errW_none, errW_some] <;> rfl), by repeat (first | (with_reducible first | exact HB.out | apply below_alloc | apply pw_below_drewN | apply below_drew1 | refine below_set ?_ (Aside0.out (by assumption))) | exact HB.out)⟩
 ·rw [if_neg c2] at H
  have c2b0 : (a0_0 == 2) = false := beq_eq_false_iff_ne.mpr c2
  have c2b1 : (a0_0 != 2) = true := bne_iff_ne.mpr c2
  replace H := Option.bind_eq_some_iff.mp H
  obtain ⟨⟨t136, t137⟩, A100, H⟩ := H
  replace H : (some (t136, t137)) = some (r1, r2) := H
  have A10 := Aside0.mk A100
  clear A100
  simp only [Option.some.injEq, Prod.mk.injEq] at H
  obtain ⟨rfl, rfl⟩ := H
  go_enter Tryd.func39, Tryd.ntmps39
  go_wp2_with (first | ((with_reducible refine gate_dst (N := 1) rfl ?_); refine box_event ?hg (N := 1) ?hd (cs := #[.int .u8 a0_0, .int .i64 a0_1, .string a0_2]) (t := 25) ?hr ?_; (case hd => rfl); (case hg => rfl); (case hr => first | (go_simp; done) | (go_simp; rfl)); intro gb132 hg w11 hbox hb; have n0_ := Aside0.mk (below_step (bw HB.out) hb); have n1_ := Aside0.mk (hbox); have n2_ := Aside0.mk ((by rw [hg]; exact (below_size (bw HB.out)) : w.heap.size ≤ gb132)); have n3_ := Aside0.mk ((by rw [hg]; exact (below_size (bw HB.out)) : w.heap.size ≤ gb132)); clear HB; have HB := n0_; have BK132 := n1_; have GW132 := n2_; have GE132 := n3_; clear n0_ n1_ n2_ n3_; clear hb hbox hg) | ((with_reducible refine gate_dst (N := 2) rfl ?_); refine box_event ?hg (N := 2) ?hd (cs := #[.int .i64 0, .int .u64 0]) (t := 49) ?hr ?_; (case hd => rfl); (case hg => rfl); (case hr => first | (go_simp; done) | (go_simp; rfl)); intro gb133 hg w12 hbox hb; have n0_ := Aside0.mk (blk_below (bk BK132.out) hb); have n1_ := Aside0.mk (below_step (by repeat (first | (with_reducible first | exact HB.out | apply below_alloc | apply pw_below_drewN | apply below_drew1 | refine below_set ?_ GE132.out) | exact HB.out)) hb); have n2_ := Aside0.mk (hbox); have n3_ := Aside0.mk ((by rw [hg]; exact (below_size (by repeat (first | (with_reducible first | exact HB.out | apply below_alloc | apply pw_below_drewN | apply below_drew1 | refine below_set ?_ GE132.out) | exact HB.out))) : w.heap.size ≤ gb133)); have n4_ := Aside0.mk ((by rw [hg]; exact (below_size (by repeat (first | (with_reducible first | exact HB.out | apply below_alloc | apply pw_below_drewN | apply below_drew1 | refine below_set ?_ GE132.out) | exact HB.out))) : w.heap.size ≤ gb133)); have n5_ := Aside0.mk ((by rw [hg]; exact Nat.ne_of_lt (blk_lt (g := gb132) (o := .cells #[.int .u8 a0_0, .int .i64 a0_1, .string a0_2] 25 (0, 0)) (bk BK132.out)) : gb132 ≠ gb133)); have n6_ := Aside0.mk ((by rw [hg]; exact Nat.ne_of_gt (blk_lt (g := gb132) (o := .cells #[.int .u8 a0_0, .int .i64 a0_1, .string a0_2] 25 (0, 0)) (bk BK132.out)) : gb133 ≠ gb132)); clear BK132; clear HB; have BK132 := n0_; have HB := n1_; have BK133 := n2_; have GW133 := n3_; have GE133 := n4_; have NB132_133 := n5_; have NB133_132 := n6_; clear n0_ n1_ n2_ n3_ n4_ n5_ n6_; clear hb hbox hg; have hnb13 := NB132_133.out; have hnc13 := NB133_132.out; have hcz14_0 : w12.cell? ⟨gb132, 0, none⟩ = some (.int .u8 a0_0) := (blk_cell BK132.out 0).trans rfl; have hcz14_1 : w12.cell? ⟨gb132, 1, none⟩ = some (.int .i64 a0_1) := (blk_cell BK132.out 1).trans rfl; have hcz14_2 : w12.cell? ⟨gb132, 2, none⟩ = some (.string a0_2) := (blk_cell BK132.out 2).trans rfl; have hfz14_0 := blk_frozen BK132.out 0; have hfz14_1 := blk_frozen BK132.out 1; have hfz14_2 := blk_frozen BK132.out 2) | ((with_reducible refine gate_callee (f := 63) rfl ?_); refine goesL_ (some 11) rfl rfl Tryd.func63 (by kernel_rfl) rfl #[.int .i64 a0_1] rfl (by (try simp only [List.map_toArray, List.map_cons, List.map_nil]); first | done | rfl | (simp only [List.length_drop, List.length_take]; rfl)) ?_; (with_reducible refine (value_of.calls a0_1 t136 t137 _ A10.out).mono ?_); rintro e w15 ⟨rfl, hb⟩; refine ⟨_, rfl, ?_⟩; have n0_ := Aside0.mk (blk_below (bk BK132.out) hb); have n1_ := Aside0.mk (blk_below (bk BK133.out) hb); have n2_ := Aside0.mk (below_step (by repeat (first | (with_reducible first | exact HB.out | apply below_alloc | apply pw_below_drewN | apply below_drew1 | refine below_set ?_ (Aside0.out (by assumption))) | exact HB.out)) hb); clear BK132; clear BK133; clear HB; have BK132 := n0_; have BK133 := n1_; have HB := n2_; clear n0_ n1_ n2_; (try clear hb); (try clear hb2); (try clear hk); (try clear hi); have hcz16_0 : w15.cell? ⟨gb133, 0, none⟩ = some (.int .i64 0) := (blk_cell BK133.out 0).trans rfl; have hcz16_1 : w15.cell? ⟨gb133, 1, none⟩ = some (.int .u64 0) := (blk_cell BK133.out 1).trans rfl; have hfz16_0 := blk_frozen BK133.out 0; have hfz16_1 := blk_frozen BK133.out 1))
  refine bodyPost_ret (results_cell_row rfl _ _ gb133 49 #[.int .i64 t136, .int .u64 t137] (0, 0) _ rfl (by (with_reducible repeat first | apply blk_drewN | apply blk_drew | apply blk_alloc); refine blk_put (cs := #[.int .i64 t136, .int .u64 0]) ?_ 1 _ rfl; refine blk_put (cs := #[.int .i64 0, .int .u64 0]) ?_ 0 _ rfl; (with_reducible repeat first | apply blk_drewN | apply blk_drew | apply blk_alloc); exact BK133.out) Tryd.underlying49 rfl (by kernel_rfl)) rfl ?_
  exact ⟨by first | rfl | (simp [errW_none, errW_some] <;> rfl) | (simp [*, errW_none, errW_some] <;> rfl), by repeat (first | (with_reducible first | exact HB.out | apply below_alloc | apply pw_below_drewN | apply below_drew1 | refine below_set ?_ (Aside0.out (by assumption))) | exact HB.out)⟩
end Go.Proofs.YtbodlnoipkommaaDoor.Q
namespace Go.Proofs.YtbodlnoipkommaaDoor.Wm
open Go.RowKit Go.Proofs.YtbodlnoipkommaaDoor.Q Go.Proofs.YtbodlnoipkommaaDoor.We Go.Proofs.YtbodlnoipkommaaDoor.Wi Go.Proofs.YtbodlnoipkommaaDoorW.PrintWords Go.Proofs.YtbodlnoipkommaaDoorW.PrintLast Go.Proofs.YtbodlnoipkommaaDoorW.PrintMore
set_option maxHeartbeats 1000000 in
theorem ofn (k n : Int) (s : ByteArray) (r1 r2 : Int) (w : World) (h : value_of.f n = some (r1, r2)) :
    Calls Tryd.prog 84 #[.agg #[.int .u8 k, .int .i64 n, .string s]] w fun e w' => e = .returned (.agg #[.int .i64 r1, .int .u64 r2]) ∧ Below w.heap.size w w' := by
  have N := Aside0.mk (value_of.calls n r1 r2 · h)
  clear h
  go_enter Tryd.func84, Tryd.ntmps84
  go_wp2_with fail
  refine (N.out _).mono ?_
  rintro e w1 ⟨rfl, hb⟩
  obtain ⟨c1, f1⟩ := bcell hb
  have c11 := fun o => c1 (w.heap.size + 1) o (by first | (simp; done) | (simp; omega) | omega)
  have f11 := fun o => f1 (w.heap.size + 1) o (by first | (simp; done) | (simp; omega) | omega)
  clear c1 f1
  replace hb := Aside0.mk hb
  go_wp2_with fail
  simp [bodyPost, results, Tryd.results84, go_sem, c11, f11]
  exact ((below_step (below_alloc (below_alloc (Below.refl _ _) _) _) hb.out).setCell (by simp) _).setCell (by simp) _
set_option maxHeartbeats 1000000 in
theorem same (a b : Int) (w : World) :
    Calls Tryd.prog 57 #[.agg #[.int .i64 a, .int .u64 b]] w fun e w' => e = .returned (.agg #[.int .i64 a, .int .u64 b]) ∧ Below w.heap.size w w' := by
  go_enter Tryd.func57, Tryd.ntmps57
  go_wp2_with fail
  simp [bodyPost, results, Tryd.results57, go_sem]
  exact below_alloc (below_alloc (Below.refl _ _) _) _
theorem set_ok {w W : World} (h : Below w.heap.size w W) {b o : Nat} (hb : w.heap.size ≤ b) (v : Value) : Below w.heap.size w (W.setCell ⟨b, o, none⟩ v) := h.setCell hb v
def Two (t : TypeId) (b : Nat) (w : World) : Prop := ∃ u v, w.heap[b]? = some (.cells #[u, v] t (0, 0))
theorem Two.below {t : TypeId} {b : Nat} {w w1 : World} (h : Two t b w) (hb : Below w.heap.size w w1) : Two t b w1 := by
  obtain ⟨u, v, h⟩ := h
  exact ⟨u, v, blk_below h hb⟩
theorem Two.set {t : TypeId} {b : Nat} {w : World} (h : Two t b w) (o : Nat) (x : Value) : Two t b (w.setCell ⟨b, o, none⟩ x) := by
  obtain ⟨u, v, h⟩ := h
  have e : (w.setCell ⟨b, o, none⟩ x).heap[b]? = some (.cells (#[u, v].setIfInBounds o x) t (0, 0)) := by
    unfold World.setCell
    simp [Array.getElem?_modify, h]
  match o with
  | 0 => exact ⟨x, v, e⟩
  | 1 => exact ⟨u, x, e⟩
  | o + 2 => exact ⟨u, v, by rw [e]; simp⟩
theorem Two.cells {t : TypeId} {b : Nat} {w : World} (h : Two t b w) : ∃ u v, w.cell? ⟨b, 0, none⟩ = some u ∧ w.cell? ⟨b, 1, none⟩ = some v ∧ w.frozen? ⟨b, 0, none⟩ = false ∧ w.frozen? ⟨b, 1, none⟩ = false := by
  obtain ⟨u, v, h⟩ := h
  refine ⟨u, v, by rw [blk_cell h]; rfl, by rw [blk_cell h]; rfl, ?_, ?_⟩ <;> simp [World.frozen?, h]
set_option maxRecDepth 100000 in
set_option maxHeartbeats 4000000 in
theorem both_84_57 (A T B : Nat) (k0 n0 : Int) (s0 : ByteArray) (k1 n1 : Int) (s1 : ByteArray) (x0 x1 y0 y1 r0 r1 : Int) (w : World)
    (a0 : w.cell? ⟨A, 0, none⟩ = some (.int .u8 k0)) (a1 : w.cell? ⟨A, 1, none⟩ = some (.int .i64 n0)) (a2 : w.cell? ⟨A, 2, none⟩ = some (.string s0))
    (b0 : w.cell? ⟨B, 0, none⟩ = some (.int .u8 k1)) (b1 : w.cell? ⟨B, 1, none⟩ = some (.int .i64 n1)) (b2 : w.cell? ⟨B, 2, none⟩ = some (.string s1))
    (t0 : w.cell? ⟨T, 0, none⟩ = some (.func (.func 57) #[] #[]))
    (hx : value_of.f n0 = some (x0, x1)) (hy : value_of.f n1 = some (y0, y1)) (hp : vw_plus.f x0 x1 y0 y1 = some (r0, r1)) :
    Calls Tryd.prog 83 #[.func (.func 84) #[] #[], .pointer (some ⟨A, 0, none⟩), .pointer (some ⟨T, 0, none⟩), .pointer (some ⟨B, 0, none⟩)] w fun e w' => e = .returned (.agg #[.int .i64 r0, .int .u64 r1]) ∧ Below w.heap.size w w' := by
  have la0 := World.block_lt_of_cell? w _ a0
  have lb0 := World.block_lt_of_cell? w _ b0
  have lt0 := World.block_lt_of_cell? w _ t0
  have X := Aside0.mk (ofn k0 n0 s0 x0 x1 · hx)
  have Y := Aside0.mk (ofn k1 n1 s1 y0 y1 · hy)
  have M := Aside0.mk (fun W => same y0 y1 W)
  have P := Aside0.mk (vw_plus.calls x0 x1 y0 y1 r0 r1 · hp)
  clear hx hy hp
  have W0 : Below w.heap.size w (w.alloc (.cells #[.int .i64 0, .int .u64 0] 49)).drew := below_drew1 (below_alloc (Below.refl _ _) _)
  have St0 := Aside0.mk (show Below w.heap.size w (w.alloc (.cells #[.int .i64 0, .int .u64 0] 49)).drew ∧ Two 49 w.heap.size (w.alloc (.cells #[.int .i64 0, .int .u64 0] 49)).drew from ⟨W0, _, _, heap_alloc_new w _⟩)
  clear W0
  have ra0 : ∀ W, Below w.heap.size w W → W.cell? ⟨A, 0, none⟩ = some (.int .u8 k0) := fun W h => pw_cell_below h a0
  have ra1 : ∀ W, Below w.heap.size w W → W.cell? ⟨A, 1, none⟩ = some (.int .i64 n0) := fun W h => pw_cell_below h a1
  have ra2 : ∀ W, Below w.heap.size w W → W.cell? ⟨A, 2, none⟩ = some (.string s0) := fun W h => pw_cell_below h a2
  have rb0 : ∀ W, Below w.heap.size w W → W.cell? ⟨B, 0, none⟩ = some (.int .u8 k1) := fun W h => pw_cell_below h b0
  have rb1 : ∀ W, Below w.heap.size w W → W.cell? ⟨B, 1, none⟩ = some (.int .i64 n1) := fun W h => pw_cell_below h b1
  have rb2 : ∀ W, Below w.heap.size w W → W.cell? ⟨B, 2, none⟩ = some (.string s1) := fun W h => pw_cell_below h b2
  have rt0 : ∀ W, Below w.heap.size w W → W.cell? ⟨T, 0, none⟩ = some (.func (.func 57) #[] #[]) := fun W h => pw_cell_below h t0
  clear a0 a1 a2 b0 b1 b2 t0
  go_enter Tryd.func83, Tryd.ntmps83
  go_wp2_with fail
  go_region_held3 (fun w' => Below w.heap.size w w' ∧ Two 49 w.heap.size w')
    (first | (with_reducible exact St0.out) | (go_split_ands; exact ⟨below_step (by assumption) hb, Two.below (by assumption) hb⟩) | (go_split_ands; exact ⟨set_ok (set_ok (by assumption) (Nat.le_refl _) _) (Nat.le_refl _) _, Two.set (Two.set (by assumption) _ _) _ _⟩))
    (first | (((with_reducible refine (X.out _).mono ?_); rintro e w' ⟨rfl, hb⟩)) | (((with_reducible refine (Y.out _).mono ?_); rintro e w' ⟨rfl, hb⟩)) | (((with_reducible refine (M.out _).mono ?_); rintro e w' ⟨rfl, hb⟩)) | (((with_reducible refine (P.out _).mono ?_); rintro e w' ⟨rfl, hb⟩; go_split_ands; have q2 : Two 49 w.heap.size w' := Two.below (by assumption) hb; obtain ⟨u0, u1, q0, q1, f0, f1⟩ := q2.cells)))
  go_wp2
  simp [bodyPost, results, Tryd.results83, go_sem, q0, q1, f0, f1]
  go_split_ands
  exact set_ok (set_ok (below_step (by assumption) hb) (Nat.le_refl _) _) (Nat.le_refl _) _
set_option maxRecDepth 100000 in
set_option maxHeartbeats 4000000 in
theorem both_84_41 (A T B : Nat) (k0 n0 : Int) (s0 : ByteArray) (k1 n1 : Int) (s1 : ByteArray) (x0 x1 y0 y1 v0 v1 r0 r1 : Int) (w : World)
    (a0 : w.cell? ⟨A, 0, none⟩ = some (.int .u8 k0)) (a1 : w.cell? ⟨A, 1, none⟩ = some (.int .i64 n0)) (a2 : w.cell? ⟨A, 2, none⟩ = some (.string s0))
    (b0 : w.cell? ⟨B, 0, none⟩ = some (.int .u8 k1)) (b1 : w.cell? ⟨B, 1, none⟩ = some (.int .i64 n1)) (b2 : w.cell? ⟨B, 2, none⟩ = some (.string s1))
    (t0 : w.cell? ⟨T, 0, none⟩ = some (.func (.func 41) #[] #[]))
    (hx : value_of.f n0 = some (x0, x1)) (hy : value_of.f n1 = some (y0, y1)) (ht : vw_minus.f y0 y1 = some (v0, v1)) (hp : vw_plus.f x0 x1 v0 v1 = some (r0, r1)) :
    Calls Tryd.prog 83 #[.func (.func 84) #[] #[], .pointer (some ⟨A, 0, none⟩), .pointer (some ⟨T, 0, none⟩), .pointer (some ⟨B, 0, none⟩)] w fun e w' => e = .returned (.agg #[.int .i64 r0, .int .u64 r1]) ∧ Below w.heap.size w w' := by
  have la0 := World.block_lt_of_cell? w _ a0
  have lb0 := World.block_lt_of_cell? w _ b0
  have lt0 := World.block_lt_of_cell? w _ t0
  have X := Aside0.mk (ofn k0 n0 s0 x0 x1 · hx)
  have Y := Aside0.mk (ofn k1 n1 s1 y0 y1 · hy)
  have M := Aside0.mk (fun W => vw_minus.calls y0 y1 v0 v1 W ht)
  have P := Aside0.mk (vw_plus.calls x0 x1 v0 v1 r0 r1 · hp)
  clear hx hy ht hp
  have W0 : Below w.heap.size w (w.alloc (.cells #[.int .i64 0, .int .u64 0] 49)).drew := below_drew1 (below_alloc (Below.refl _ _) _)
  have St0 := Aside0.mk (show Below w.heap.size w (w.alloc (.cells #[.int .i64 0, .int .u64 0] 49)).drew ∧ Two 49 w.heap.size (w.alloc (.cells #[.int .i64 0, .int .u64 0] 49)).drew from ⟨W0, _, _, heap_alloc_new w _⟩)
  clear W0
  have ra0 : ∀ W, Below w.heap.size w W → W.cell? ⟨A, 0, none⟩ = some (.int .u8 k0) := fun W h => pw_cell_below h a0
  have ra1 : ∀ W, Below w.heap.size w W → W.cell? ⟨A, 1, none⟩ = some (.int .i64 n0) := fun W h => pw_cell_below h a1
  have ra2 : ∀ W, Below w.heap.size w W → W.cell? ⟨A, 2, none⟩ = some (.string s0) := fun W h => pw_cell_below h a2
  have rb0 : ∀ W, Below w.heap.size w W → W.cell? ⟨B, 0, none⟩ = some (.int .u8 k1) := fun W h => pw_cell_below h b0
  have rb1 : ∀ W, Below w.heap.size w W → W.cell? ⟨B, 1, none⟩ = some (.int .i64 n1) := fun W h => pw_cell_below h b1
  have rb2 : ∀ W, Below w.heap.size w W → W.cell? ⟨B, 2, none⟩ = some (.string s1) := fun W h => pw_cell_below h b2
  have rt0 : ∀ W, Below w.heap.size w W → W.cell? ⟨T, 0, none⟩ = some (.func (.func 41) #[] #[]) := fun W h => pw_cell_below h t0
  clear a0 a1 a2 b0 b1 b2 t0
  go_enter Tryd.func83, Tryd.ntmps83
  go_wp2_with fail
  go_region_held3 (fun w' => Below w.heap.size w w' ∧ Two 49 w.heap.size w')
    (first | (with_reducible exact St0.out) | (go_split_ands; exact ⟨below_step (by assumption) hb, Two.below (by assumption) hb⟩) | (go_split_ands; exact ⟨set_ok (set_ok (by assumption) (Nat.le_refl _) _) (Nat.le_refl _) _, Two.set (Two.set (by assumption) _ _) _ _⟩))
    (first | (((with_reducible refine (X.out _).mono ?_); rintro e w' ⟨rfl, hb⟩)) | (((with_reducible refine (Y.out _).mono ?_); rintro e w' ⟨rfl, hb⟩)) | (((with_reducible refine (M.out _).mono ?_); rintro e w' ⟨rfl, hb⟩)) | (((with_reducible refine (P.out _).mono ?_); rintro e w' ⟨rfl, hb⟩; go_split_ands; have q2 : Two 49 w.heap.size w' := Two.below (by assumption) hb; obtain ⟨u0, u1, q0, q1, f0, f1⟩ := q2.cells)))
  go_wp2
  simp [bodyPost, results, Tryd.results83, go_sem, q0, q1, f0, f1]
  go_split_ands
  exact set_ok (set_ok (below_step (by assumption) hb) (Nat.le_refl _) _) (Nat.le_refl _) _
set_option maxRecDepth 100000 in
set_option maxHeartbeats 4000000 in
theorem both_39_57 (A T B : Nat) (k0 n0 : Int) (s0 : ByteArray) (k1 n1 : Int) (s1 : ByteArray) (x0 x1 y0 y1 r0 r1 : Int) (w : World)
    (a0 : w.cell? ⟨A, 0, none⟩ = some (.int .u8 k0)) (a1 : w.cell? ⟨A, 1, none⟩ = some (.int .i64 n0)) (a2 : w.cell? ⟨A, 2, none⟩ = some (.string s0))
    (b0 : w.cell? ⟨B, 0, none⟩ = some (.int .u8 k1)) (b1 : w.cell? ⟨B, 1, none⟩ = some (.int .i64 n1)) (b2 : w.cell? ⟨B, 2, none⟩ = some (.string s1))
    (t0 : w.cell? ⟨T, 0, none⟩ = some (.func (.func 57) #[] #[]))
    (hx : value_fixed.f k0 n0 s0 = some (x0, x1)) (hy : value_fixed.f k1 n1 s1 = some (y0, y1)) (hp : vw_plus.f x0 x1 y0 y1 = some (r0, r1)) :
    Calls Tryd.prog 83 #[.func (.func 39) #[] #[], .pointer (some ⟨A, 0, none⟩), .pointer (some ⟨T, 0, none⟩), .pointer (some ⟨B, 0, none⟩)] w fun e w' => e = .returned (.agg #[.int .i64 r0, .int .u64 r1]) ∧ Below w.heap.size w w' := by
  have la0 := World.block_lt_of_cell? w _ a0
  have lb0 := World.block_lt_of_cell? w _ b0
  have lt0 := World.block_lt_of_cell? w _ t0
  have X := Aside0.mk (value_fixed.calls k0 n0 s0 x0 x1 · hx)
  have Y := Aside0.mk (value_fixed.calls k1 n1 s1 y0 y1 · hy)
  have M := Aside0.mk (fun W => same y0 y1 W)
  have P := Aside0.mk (vw_plus.calls x0 x1 y0 y1 r0 r1 · hp)
  clear hx hy hp
  have W0 : Below w.heap.size w (w.alloc (.cells #[.int .i64 0, .int .u64 0] 49)).drew := below_drew1 (below_alloc (Below.refl _ _) _)
  have St0 := Aside0.mk (show Below w.heap.size w (w.alloc (.cells #[.int .i64 0, .int .u64 0] 49)).drew ∧ Two 49 w.heap.size (w.alloc (.cells #[.int .i64 0, .int .u64 0] 49)).drew from ⟨W0, _, _, heap_alloc_new w _⟩)
  clear W0
  have ra0 : ∀ W, Below w.heap.size w W → W.cell? ⟨A, 0, none⟩ = some (.int .u8 k0) := fun W h => pw_cell_below h a0
  have ra1 : ∀ W, Below w.heap.size w W → W.cell? ⟨A, 1, none⟩ = some (.int .i64 n0) := fun W h => pw_cell_below h a1
  have ra2 : ∀ W, Below w.heap.size w W → W.cell? ⟨A, 2, none⟩ = some (.string s0) := fun W h => pw_cell_below h a2
  have rb0 : ∀ W, Below w.heap.size w W → W.cell? ⟨B, 0, none⟩ = some (.int .u8 k1) := fun W h => pw_cell_below h b0
  have rb1 : ∀ W, Below w.heap.size w W → W.cell? ⟨B, 1, none⟩ = some (.int .i64 n1) := fun W h => pw_cell_below h b1
  have rb2 : ∀ W, Below w.heap.size w W → W.cell? ⟨B, 2, none⟩ = some (.string s1) := fun W h => pw_cell_below h b2
  have rt0 : ∀ W, Below w.heap.size w W → W.cell? ⟨T, 0, none⟩ = some (.func (.func 57) #[] #[]) := fun W h => pw_cell_below h t0
  clear a0 a1 a2 b0 b1 b2 t0
  go_enter Tryd.func83, Tryd.ntmps83
  go_wp2_with fail
  go_region_held3 (fun w' => Below w.heap.size w w' ∧ Two 49 w.heap.size w')
    (first | (with_reducible exact St0.out) | (go_split_ands; exact ⟨below_step (by assumption) hb, Two.below (by assumption) hb⟩) | (go_split_ands; exact ⟨set_ok (set_ok (by assumption) (Nat.le_refl _) _) (Nat.le_refl _) _, Two.set (Two.set (by assumption) _ _) _ _⟩))
    (first | (((with_reducible refine (X.out _).mono ?_); rintro e w' ⟨rfl, hb⟩)) | (((with_reducible refine (Y.out _).mono ?_); rintro e w' ⟨rfl, hb⟩)) | (((with_reducible refine (M.out _).mono ?_); rintro e w' ⟨rfl, hb⟩)) | (((with_reducible refine (P.out _).mono ?_); rintro e w' ⟨rfl, hb⟩; go_split_ands; have q2 : Two 49 w.heap.size w' := Two.below (by assumption) hb; obtain ⟨u0, u1, q0, q1, f0, f1⟩ := q2.cells)))
  go_wp2
  simp [bodyPost, results, Tryd.results83, go_sem, q0, q1, f0, f1]
  go_split_ands
  exact set_ok (set_ok (below_step (by assumption) hb) (Nat.le_refl _) _) (Nat.le_refl _) _
set_option maxRecDepth 100000 in
set_option maxHeartbeats 4000000 in
theorem both_39_41 (A T B : Nat) (k0 n0 : Int) (s0 : ByteArray) (k1 n1 : Int) (s1 : ByteArray) (x0 x1 y0 y1 v0 v1 r0 r1 : Int) (w : World)
    (a0 : w.cell? ⟨A, 0, none⟩ = some (.int .u8 k0)) (a1 : w.cell? ⟨A, 1, none⟩ = some (.int .i64 n0)) (a2 : w.cell? ⟨A, 2, none⟩ = some (.string s0))
    (b0 : w.cell? ⟨B, 0, none⟩ = some (.int .u8 k1)) (b1 : w.cell? ⟨B, 1, none⟩ = some (.int .i64 n1)) (b2 : w.cell? ⟨B, 2, none⟩ = some (.string s1))
    (t0 : w.cell? ⟨T, 0, none⟩ = some (.func (.func 41) #[] #[]))
    (hx : value_fixed.f k0 n0 s0 = some (x0, x1)) (hy : value_fixed.f k1 n1 s1 = some (y0, y1)) (ht : vw_minus.f y0 y1 = some (v0, v1)) (hp : vw_plus.f x0 x1 v0 v1 = some (r0, r1)) :
    Calls Tryd.prog 83 #[.func (.func 39) #[] #[], .pointer (some ⟨A, 0, none⟩), .pointer (some ⟨T, 0, none⟩), .pointer (some ⟨B, 0, none⟩)] w fun e w' => e = .returned (.agg #[.int .i64 r0, .int .u64 r1]) ∧ Below w.heap.size w w' := by
  have la0 := World.block_lt_of_cell? w _ a0
  have lb0 := World.block_lt_of_cell? w _ b0
  have lt0 := World.block_lt_of_cell? w _ t0
  have X := Aside0.mk (value_fixed.calls k0 n0 s0 x0 x1 · hx)
  have Y := Aside0.mk (value_fixed.calls k1 n1 s1 y0 y1 · hy)
  have M := Aside0.mk (fun W => vw_minus.calls y0 y1 v0 v1 W ht)
  have P := Aside0.mk (vw_plus.calls x0 x1 v0 v1 r0 r1 · hp)
  clear hx hy ht hp
  have W0 : Below w.heap.size w (w.alloc (.cells #[.int .i64 0, .int .u64 0] 49)).drew := below_drew1 (below_alloc (Below.refl _ _) _)
  have St0 := Aside0.mk (show Below w.heap.size w (w.alloc (.cells #[.int .i64 0, .int .u64 0] 49)).drew ∧ Two 49 w.heap.size (w.alloc (.cells #[.int .i64 0, .int .u64 0] 49)).drew from ⟨W0, _, _, heap_alloc_new w _⟩)
  clear W0
  have ra0 : ∀ W, Below w.heap.size w W → W.cell? ⟨A, 0, none⟩ = some (.int .u8 k0) := fun W h => pw_cell_below h a0
  have ra1 : ∀ W, Below w.heap.size w W → W.cell? ⟨A, 1, none⟩ = some (.int .i64 n0) := fun W h => pw_cell_below h a1
  have ra2 : ∀ W, Below w.heap.size w W → W.cell? ⟨A, 2, none⟩ = some (.string s0) := fun W h => pw_cell_below h a2
  have rb0 : ∀ W, Below w.heap.size w W → W.cell? ⟨B, 0, none⟩ = some (.int .u8 k1) := fun W h => pw_cell_below h b0
  have rb1 : ∀ W, Below w.heap.size w W → W.cell? ⟨B, 1, none⟩ = some (.int .i64 n1) := fun W h => pw_cell_below h b1
  have rb2 : ∀ W, Below w.heap.size w W → W.cell? ⟨B, 2, none⟩ = some (.string s1) := fun W h => pw_cell_below h b2
  have rt0 : ∀ W, Below w.heap.size w W → W.cell? ⟨T, 0, none⟩ = some (.func (.func 41) #[] #[]) := fun W h => pw_cell_below h t0
  clear a0 a1 a2 b0 b1 b2 t0
  go_enter Tryd.func83, Tryd.ntmps83
  go_wp2_with fail
  go_region_held3 (fun w' => Below w.heap.size w w' ∧ Two 49 w.heap.size w')
    (first | (with_reducible exact St0.out) | (go_split_ands; exact ⟨below_step (by assumption) hb, Two.below (by assumption) hb⟩) | (go_split_ands; exact ⟨set_ok (set_ok (by assumption) (Nat.le_refl _) _) (Nat.le_refl _) _, Two.set (Two.set (by assumption) _ _) _ _⟩))
    (first | (((with_reducible refine (X.out _).mono ?_); rintro e w' ⟨rfl, hb⟩)) | (((with_reducible refine (Y.out _).mono ?_); rintro e w' ⟨rfl, hb⟩)) | (((with_reducible refine (M.out _).mono ?_); rintro e w' ⟨rfl, hb⟩)) | (((with_reducible refine (P.out _).mono ?_); rintro e w' ⟨rfl, hb⟩; go_split_ands; have q2 : Two 49 w.heap.size w' := Two.below (by assumption) hb; obtain ⟨u0, u1, q0, q1, f0, f1⟩ := q2.cells)))
  go_wp2
  simp [bodyPost, results, Tryd.results83, go_sem, q0, q1, f0, f1]
  go_split_ands
  exact set_ok (set_ok (below_step (by assumption) hb) (Nat.le_refl _) _) (Nat.le_refl _) _
end Go.Proofs.YtbodlnoipkommaaDoor.Wm
namespace Go.Proofs.YtbodlnoipkommaaDoor.Wj
open Go.RowKit Go.Proofs.YtbodlnoipkommaaDoor.Q Go.Proofs.YtbodlnoipkommaaDoor.Wh Go.Proofs.YtbodlnoipkommaaDoor.Wi Go.Proofs.YtbodlnoipkommaaDoorW.PrintWords Go.Proofs.YtbodlnoipkommaaDoorW.PrintLast Go.Proofs.YtbodlnoipkommaaDoorW.PrintMore
def value_asked.f (k0 n0 : Int) (s0 : ByteArray) (k1 n1 : Int) (s1 : ByteArray) : Option (Bool × Int) := some (askedR k0 n0 s0 k1 n1 s1)
theorem three (k : Int) : k = 0 ∨ ((k == 0) = false ∧ (k != 0) = true ∧ numB k = true) ∨ ((k == 0) = false ∧ (k != 0) = true ∧ numB k = false) := by
  by_cases h : k = 0
  · exact Or.inl h
  · have a : (k == 0) = false := beq_false_of_ne h
    have b : (k != 0) = true := by simpa [bne] using h
    cases hn : numB k
    · exact Or.inr (Or.inr ⟨a, b, rfl⟩)
    · exact Or.inr (Or.inl ⟨a, b, rfl⟩)
theorem value_asked.calls (k0 n0 : Int) (s0 : ByteArray) (k1 n1 : Int) (s1 : ByteArray) (r1 : Bool) (r2 : Int) (w : World) (h : value_asked.f k0 n0 s0 k1 n1 s1 = some (r1, r2)) :
    Calls Tryd.prog 58 #[.agg #[.int .u8 k0, .int .i64 n0, .string s0], .agg #[.int .u8 k1, .int .i64 n1, .string s1]] w fun e w' => e = .returned (.tuple #[.bool r1, .int .i64 r2]) ∧ Below w.heap.size w w' := by
  injection h with h
  unfold askedR at h
  cases hr : rightB k0 n0 s0
  · rw [hr] at h; simp only [Bool.not_false, Bool.true_or, if_true] at h
    injection h with e1 e2; subst e1 e2
    exact wrong0 k0 n0 s0 k1 n1 s1 w hr
  cases hr1 : rightB k1 n1 s1
  · rw [hr, hr1] at h; simp only [Bool.not_false, Bool.not_true, Bool.or_true, if_true] at h
    injection h with e1 e2; subst e1 e2
    exact wrong1 k0 n0 s0 k1 n1 s1 w hr hr1
  rw [hr, hr1] at h
  simp only [Bool.not_true, Bool.or_false, Bool.false_eq_true, if_false] at h
  rcases three k0 with rfl | ⟨z0, y0, q0⟩ | ⟨z0, y0, q0⟩
  · rcases three k1 with rfl | ⟨z1, y1, q1⟩ | ⟨z1, y1, q1⟩
    · injection h with e1 e2; subst e1 e2
      exact a_null_null n0 s0 n1 s1 w hr hr1
    · have hb : badB k1 = false := by unfold badB; rw [z1, q1]; rfl
      rw [hb] at h
      injection h with e1 e2; subst e1 e2
      exact a_null_num n0 s0 k1 n1 s1 w hr hr1 q1 z1 y1
    · have hb : badB k1 = true := by unfold badB; rw [z1, q1]; rfl
      rw [hb, Bool.or_true, if_pos rfl] at h
      injection h with e1 e2; subst e1 e2
      exact a_null_bad n0 s0 k1 n1 s1 w hr hr1 q1 z1 y1
  · have hb0 : badB k0 = false := by unfold badB; rw [z0, q0]; rfl
    rw [hb0, z0] at h
    rcases three k1 with rfl | ⟨z1, y1, q1⟩ | ⟨z1, y1, q1⟩
    · injection h with e1 e2; subst e1 e2
      exact a_num_null k0 n0 s0 n1 s1 w hr hr1 q0 z0 y0
    · have hb : badB k1 = false := by unfold badB; rw [z1, q1]; rfl
      rw [hb, z1] at h
      injection h with e1 e2; subst e1 e2
      exact a_num_num k0 n0 s0 k1 n1 s1 w hr hr1 q0 z0 y0 q1 z1 y1
    · have hb : badB k1 = true := by unfold badB; rw [z1, q1]; rfl
      rw [hb, Bool.or_true, if_pos rfl] at h
      injection h with e1 e2; subst e1 e2
      exact a_num_bad k0 n0 s0 k1 n1 s1 w hr hr1 q0 z0 y0 q1 z1 y1
  · have hb0 : badB k0 = true := by unfold badB; rw [z0, q0]; rfl
    rw [hb0, Bool.true_or, if_pos rfl] at h
    injection h with e1 e2; subst e1 e2
    exact a_bad_any k0 n0 s0 k1 n1 s1 w hr hr1 q0 z0 y0
end Go.Proofs.YtbodlnoipkommaaDoor.Wj
