/- lexer.next: the token at the beginning of a text. -/
import Derived.Test.YtnmdlimpfckicaaDoorR
import Derived.Test.YtnmdlimpfckicaaDoorT
import Derived.Test.YtnmdlimpfckicaaDoorQxf15
import Derived.Test.YtnmdlimpfckicaaDoorQxf22
namespace Go.Proofs.YtnmdlimpfckicaaDoor.X
open Go.RowKit Go.Proofs.YtnmdlimpfckicaaDoor.Q Go.Proofs.YtnmdlimpfckicaaDoor.R Go.Proofs.YtnmdlimpfckicaaDoor.S Go.Proofs.YtnmdlimpfckicaaDoor.T Go.Proofs.YtnmdlimpfckicaaDoorW.PrintWords Go.Proofs.YtnmdlimpfckicaaDoorW.PrintLast Go.Proofs.YtnmdlimpfckicaaDoorW.PrintMore

def hasP (a0 p : ByteArray) : Bool := decide (p.size ≤ a0.size) && ((a0.extract 0 p.size).toList == p.toList)
theorem hasP_f (a0 p : ByteArray) : strings_HasPrefix.f a0 p = some (hasP a0 p) := by
  unfold strings_HasPrefix.f stringslite_HasPrefix.f hasP
  by_cases h : p.size ≤ a0.size
  · rw [if_pos (by omega), if_pos (by omega), if_pos (by omega), Int.toNat_natCast]; simp [h]
  · rw [if_neg (by omega)]; simp [h]

abbrev Tok4 := Int × ByteArray × Int × Int
/-- The signs of one byte. -/
def signs : ByteArray := ⟨#[40, 41, 44, 46, 59, 43, 45, 42, 61, 60, 62]⟩
def cutTok (a0 : ByteArray) (k n : Int) : Option Tok4 := if 0 ≤ n ∧ n ≤ a0.size then some (k, a0.extract 0 n.toNat, 0, n) else none
def signTok (a0 : ByteArray) : Tok4 :=
  if hasP a0 ⟨#[60, 62]⟩ then (5, ⟨#[60, 62]⟩, 0, 2) else
  if hasP a0 ⟨#[60, 61]⟩ then (5, ⟨#[60, 61]⟩, 0, 2) else
  if hasP a0 ⟨#[62, 61]⟩ then (5, ⟨#[62, 61]⟩, 0, 2) else
  if Lib.indexByte signs.data.toList (bt a0 0).toNat.toUInt8 < 0 then (0, ⟨#[]⟩, 0, 0) else (5, a0.extract 0 1, 0, 1)
def lexer_next.f (k : Nat) (a0 : ByteArray) : Option Tok4 :=
  if a0.size = 0 then none else
  if hasP a0 ⟨#[120, 39]⟩ then (lexer_octets.f a0).bind fun r => some (4, r.1, 0, r.2) else
  if bt a0 0 = 39 then (lexer_text.f a0).bind fun r => some (3, r.1, 0, r.2) else
  if letterB (bt a0 0) then (run_part.f a0).bind fun n => if n > 24 then some (0, ⟨#[]⟩, 0, 0) else cutTok a0 1 n else
  if digitB (bt a0 0) then (lexer_number.f k a0).bind fun n => cutTok a0 2 n else
  some (signTok a0)
theorem lexer_next.mono (a0 : ByteArray) (k : Nat) : LeO (lexer_next.f k a0) (lexer_next.f (k + 1) a0) := by
  unfold lexer_next.f
  refine LeO.ite (LeO.refl _) (LeO.ite (LeO.refl _) (LeO.ite (LeO.refl _) (LeO.ite (LeO.refl _) (LeO.ite (LeO.bind (lexer_number.mono a0 k) fun _ => LeO.refl _) (LeO.refl _)))))

def NextPost (w : World) (r1 : Int) (r2 : ByteArray) (r3 r4 : Int) (e : Ending) (w' : World) : Prop :=
  e = .returned (.tuple #[.agg #[.int .u8 r1, .string r2, .int .i64 r3], .int .i64 r4]) ∧ Below w.heap.size w w'
theorem wrap_bt (a0 : ByteArray) : wrap32 (bt a0 0) = bt a0 0 := by
  have := bt_range a0 0; unfold wrap32; omega
theorem bt_zero (a0 : ByteArray) (h : 0 < a0.size) : ((a0[0]'h).toNat : Int) = bt a0 0 := by
  have := bt_at a0 0 (by simpa using h)
  simpa using this

/-- The result's variable, behind a call that leaves it alone. -/
theorem res_cells {w w2 : World} {m : Nat} (hb : Below ((w.alloc (.cells #[.int .u8 0, .string ⟨#[]⟩, .int .i64 0] 32)).drewN m).heap.size ((w.alloc (.cells #[.int .u8 0, .string ⟨#[]⟩, .int .i64 0] 32)).drewN m) w2) :
    w2.cell? ⟨w.heap.size, 0, none⟩ = some (.int .u8 0) ∧ w2.cell? ⟨w.heap.size, 1, none⟩ = some (.string ⟨#[]⟩) ∧ w2.cell? ⟨w.heap.size, 2, none⟩ = some (.int .i64 0) ∧
    w2.frozen? ⟨w.heap.size, 0, none⟩ = false ∧ w2.frozen? ⟨w.heap.size, 1, none⟩ = false ∧ w2.frozen? ⟨w.heap.size, 2, none⟩ = false := by
  have h0 : ((w.alloc (.cells #[.int .u8 0, .string ⟨#[]⟩, .int .i64 0] 32)).drewN m).heap[w.heap.size]? = some (.cells #[.int .u8 0, .string ⟨#[]⟩, .int .i64 0] 32) := heap_alloc_new _ _
  have h := blk_below h0 hb
  exact ⟨blk_cell h 0, blk_cell h 1, blk_cell h 2, blk_frozen h 0, blk_frozen h 1, blk_frozen h 2⟩
theorem res_done {w2 : World} {g t : Nat} {a b c : Value} (h : w2.heap[g]? = some (.cells #[a, b, c] t (0, 0))) (a' b' c' : Value) :
    (((w2.setCell ⟨g, 0, none⟩ a').setCell ⟨g, 1, none⟩ b').setCell ⟨g, 2, none⟩ c').heap[g]? = some (.cells #[a', b', c'] t (0, 0)) := blk_put (blk_put (blk_put h 0 a' rfl) 1 b' rfl) 2 c' rfl
theorem res_below {w w2 : World} {m : Nat} {o : Obj} (hb : Below ((w.alloc o).drewN m).heap.size ((w.alloc o).drewN m) w2) (a' b' c' : Value) :
    Below w.heap.size w (((w2.setCell ⟨w.heap.size, 0, none⟩ a').setCell ⟨w.heap.size, 1, none⟩ b').setCell ⟨w.heap.size, 2, none⟩ c') :=
  ((((below_step (pw_below_drewN (below_alloc (Below.refl _ _) _) _) hb).setCell (p := ⟨w.heap.size, 0, none⟩) (Nat.le_refl _) _).setCell (p := ⟨w.heap.size, 1, none⟩) (Nat.le_refl _) _).setCell (p := ⟨w.heap.size, 2, none⟩) (Nat.le_refl _) _)
theorem res_blk {w w2 : World} {m : Nat} (hb : Below ((w.alloc (.cells #[.int .u8 0, .string ⟨#[]⟩, .int .i64 0] 32)).drewN m).heap.size ((w.alloc (.cells #[.int .u8 0, .string ⟨#[]⟩, .int .i64 0] 32)).drewN m) w2) :
    w2.heap[w.heap.size]? = some (.cells #[.int .u8 0, .string ⟨#[]⟩, .int .i64 0] 32 (0, 0)) := blk_below (blk_drewN (heap_alloc_new _ _) m) hb

set_option maxHeartbeats 8000000 in
theorem next_octets (k : Nat) (a0 : ByteArray) (r1 : Int) (r2 : ByteArray) (r3 r4 : Int) (w : World) (hs : 0 < a0.size) (h1 : hasP a0 ⟨#[120, 39]⟩ = true) (h : lexer_next.f k a0 = some (r1, r2, r3, r4)) :
    Calls Tryd.prog 9 #[.string a0] w (NextPost w r1 r2 r3 r4) := by
  unfold lexer_next.f at h
  rw [if_neg (by omega), if_pos h1] at h
  obtain ⟨⟨t, n⟩, ho, h⟩ := Option.bind_eq_some_iff.1 h
  injection h with h
  injection h with e1 h; injection h with e2 h; injection h with e3 e4
  subst e1 e2 e3 e4
  have HP := Aside0.mk ((hasP_f a0 ⟨#[120, 39]⟩).trans (congrArg some h1))
  have HO := Aside0.mk ho
  have hs' : (0 : Int) < a0.size := by omega
  clear h1 ho
  go_enter Tryd.func9, Tryd.ntmps9
  go_wp2_with fail
  refine (strings_HasPrefix.calls a0 _ _ _ HP.out).mono ?_
  rintro e w' ⟨rfl, ⟨m, rfl⟩⟩
  go_wp2_with fail
  refine (lexer_octets.calls a0 _ _ _ HO.out).mono ?_
  rintro e w2 ⟨rfl, hb⟩
  obtain ⟨hc0, hc1, hc2, hf0, hf1, hf2⟩ := res_cells hb
  replace hb := Aside0.mk hb
  go_wp2_with fail
  exact bodyPost_ret (results_ct rfl _ _ w.heap.size 32 #[.int .u8 4, .string t, .int .i64 0] (0, 0) _ rfl (res_done (res_blk hb.out) _ _ _) Tryd.underlying32 rfl (by kernel_rfl)) rfl ⟨rfl, res_below hb.out _ _ _⟩

set_option maxHeartbeats 8000000 in
theorem next_text (k : Nat) (a0 : ByteArray) (r1 : Int) (r2 : ByteArray) (r3 r4 : Int) (w : World) (hs : 0 < a0.size) (h1 : hasP a0 ⟨#[120, 39]⟩ = false) (h2 : bt a0 0 = 39) (h : lexer_next.f k a0 = some (r1, r2, r3, r4)) :
    Calls Tryd.prog 9 #[.string a0] w (NextPost w r1 r2 r3 r4) := by
  unfold lexer_next.f at h
  rw [if_neg (by omega), if_neg (by rw [h1]; decide), if_pos h2] at h
  obtain ⟨⟨t, n⟩, ho, h⟩ := Option.bind_eq_some_iff.1 h
  injection h with h
  injection h with e1 h; injection h with e2 h; injection h with e3 e4
  subst e1 e2 e3 e4
  have HP := Aside0.mk ((hasP_f a0 ⟨#[120, 39]⟩).trans (congrArg some h1))
  have HO := Aside0.mk ho
  have hs' : (0 : Int) < a0.size := by omega
  clear h1 ho
  have hq : (wrap32 (a0[0].toNat : Int) == 39) = true := by rw [bt_zero a0 hs, wrap_bt, h2]; rfl
  clear h2
  go_enter Tryd.func9, Tryd.ntmps9
  go_wp2_with fail
  refine (strings_HasPrefix.calls a0 _ _ _ HP.out).mono ?_
  rintro e w' ⟨rfl, ⟨m, rfl⟩⟩
  go_wp2_with fail
  refine (lexer_text.calls a0 _ _ _ HO.out).mono ?_
  rintro e w2 ⟨rfl, hb⟩
  obtain ⟨hc0, hc1, hc2, hf0, hf1, hf2⟩ := res_cells hb
  replace hb := Aside0.mk hb
  go_wp2_with fail
  exact bodyPost_ret (results_ct rfl _ _ w.heap.size 32 #[.int .u8 3, .string t, .int .i64 0] (0, 0) _ rfl (res_done (res_blk hb.out) _ _ _) Tryd.underlying32 rfl (by kernel_rfl)) rfl ⟨rfl, res_below hb.out _ _ _⟩

theorem pred_calls_letter (c : Int) (w : World) : Calls Tryd.prog 19 #[.int .i32 c] w fun e w' => e = .returned (.bool (letterB c)) ∧ Drawn0 w w' := lexer_letter.calls c _ w (letter_f c)
theorem pred_calls_digit (c : Int) (w : World) : Calls Tryd.prog 21 #[.int .i32 c] w fun e w' => e = .returned (.bool (digitB c)) ∧ Drawn0 w w' := lexer_digit.calls c _ w (digit_f c)

set_option maxHeartbeats 8000000 in
theorem next_word (k : Nat) (a0 : ByteArray) (r1 : Int) (r2 : ByteArray) (r3 r4 : Int) (w : World) (hs : 0 < a0.size) (h1 : hasP a0 ⟨#[120, 39]⟩ = false) (h2 : ¬ bt a0 0 = 39) (h3 : letterB (bt a0 0) = true) (h : lexer_next.f k a0 = some (r1, r2, r3, r4)) :
    Calls Tryd.prog 9 #[.string a0] w (NextPost w r1 r2 r3 r4) := by
  unfold lexer_next.f at h
  rw [if_neg (by omega), if_neg (by rw [h1]; decide), if_neg h2, if_pos h3] at h
  obtain ⟨n, hn, h⟩ := Option.bind_eq_some_iff.1 h
  have HP := Aside0.mk ((hasP_f a0 ⟨#[120, 39]⟩).trans (congrArg some h1))
  have HN := Aside0.mk hn
  have HH := Aside0.mk h
  have HL := Aside0.mk h3
  have hs' : (0 : Int) < a0.size := by omega
  have hq : (wrap32 (a0[0].toNat : Int) == 39) = false := by rw [bt_zero a0 hs, wrap_bt]; exact beq_eq_false_iff_ne.2 h2
  have hw : wrap32 (a0[0].toNat : Int) = bt a0 0 := by rw [bt_zero a0 hs, wrap_bt]
  have HW := Aside0.mk hw
  clear h1 h2 h3 hn h hw
  go_enter Tryd.func9, Tryd.ntmps9
  go_wp2_with fail
  refine (strings_HasPrefix.calls a0 _ _ _ HP.out).mono ?_
  rintro e w' ⟨rfl, ⟨m, rfl⟩⟩
  go_wp2_with fail
  rw [HW.out]
  refine (pred_calls_letter _ _).mono ?_
  rw [HL.out]
  rintro e w2 ⟨rfl, ⟨m2, rfl⟩⟩
  go_wp2_with fail
  refine (run_part.calls a0 _ _ HN.out).mono ?_
  rintro e w3 ⟨rfl, ⟨m3, rfl⟩⟩
  by_cases h24 : n > 24
  · have h := HH.out
    rw [if_pos h24] at h
    injection h with h
    injection h with e1 h; injection h with e2 h; injection h with e3 e4
    subst e1 e2 e3 e4
    have h24' : 24 < n := h24
    clear h24
    go_wp2_with fail
    exact bodyPost_ret (results_ct rfl _ _ w.heap.size 32 #[.int .u8 0, .string ⟨#[]⟩, .int .i64 0] (0, 0) _ rfl (res_done (res_blk (Below.refl _ _)) _ _ _) Tryd.underlying32 rfl (by kernel_rfl)) rfl ⟨rfl, res_below (Below.refl _ _) _ _ _⟩
  · have h := HH.out
    rw [if_neg h24] at h
    unfold cutTok at h
    by_cases hn : 0 ≤ n ∧ n ≤ a0.size
    · rw [if_pos hn] at h
      obtain ⟨hn0, hn1⟩ := hn
      injection h with h
      injection h with e1 h; injection h with e2 h; injection h with e3 e4
      subst e1 e2 e3 e4
      have h24' : ¬ 24 < n := h24
      clear h24
      go_wp2_with fail
      exact bodyPost_ret (results_ct rfl _ _ w.heap.size 32 #[.int .u8 1, .string (a0.extract 0 n.toNat), .int .i64 0] (0, 0) _ rfl (res_done (res_blk (Below.refl _ _)) _ _ _) Tryd.underlying32 rfl (by kernel_rfl)) rfl ⟨rfl, res_below (Below.refl _ _) _ _ _⟩
    · rw [if_neg hn] at h; cases h

set_option maxHeartbeats 8000000 in
theorem next_number (k : Nat) (a0 : ByteArray) (r1 : Int) (r2 : ByteArray) (r3 r4 : Int) (w : World) (hs : 0 < a0.size) (h1 : hasP a0 ⟨#[120, 39]⟩ = false) (h2 : ¬ bt a0 0 = 39) (h3 : letterB (bt a0 0) = false) (h4 : digitB (bt a0 0) = true) (h : lexer_next.f k a0 = some (r1, r2, r3, r4)) :
    Calls Tryd.prog 9 #[.string a0] w (NextPost w r1 r2 r3 r4) := by
  unfold lexer_next.f at h
  rw [if_neg (by omega), if_neg (by rw [h1]; decide), if_neg h2, if_neg (by rw [h3]; decide), if_pos h4] at h
  obtain ⟨n, hn, h⟩ := Option.bind_eq_some_iff.1 h
  have HP := Aside0.mk ((hasP_f a0 ⟨#[120, 39]⟩).trans (congrArg some h1))
  have HN := Aside0.mk hn
  have HL := Aside0.mk h3
  have HD := Aside0.mk h4
  have hs' : (0 : Int) < a0.size := by omega
  have hq : (wrap32 (a0[0].toNat : Int) == 39) = false := by rw [bt_zero a0 hs, wrap_bt]; exact beq_eq_false_iff_ne.2 h2
  have hw : wrap32 (a0[0].toNat : Int) = bt a0 0 := by rw [bt_zero a0 hs, wrap_bt]
  have HW := Aside0.mk hw
  clear h1 h2 h3 h4 hn hw
  unfold cutTok at h
  by_cases hn : 0 ≤ n ∧ n ≤ a0.size
  case neg => rw [if_neg hn] at h; cases h
  rw [if_pos hn] at h
  obtain ⟨hn0, hn1⟩ := hn
  injection h with h
  injection h with e1 h; injection h with e2 h; injection h with e3 e4
  subst e1 e2 e3 e4
  go_enter Tryd.func9, Tryd.ntmps9
  go_wp2_with fail
  refine (strings_HasPrefix.calls a0 _ _ _ HP.out).mono ?_
  rintro e w' ⟨rfl, ⟨m, rfl⟩⟩
  go_wp2_with fail
  rw [HW.out]
  refine (pred_calls_letter _ _).mono ?_
  rw [HL.out]
  rintro e w2 ⟨rfl, ⟨m2, rfl⟩⟩
  go_wp2_with fail
  refine (pred_calls_digit _ _).mono ?_
  rw [HD.out]
  rintro e w3 ⟨rfl, ⟨m3, rfl⟩⟩
  go_wp2_with fail
  refine (lexer_number.calls k a0 _ _ HN.out).mono ?_
  rintro e w4 ⟨rfl, ⟨m4, rfl⟩⟩
  go_wp2_with fail
  exact bodyPost_ret (results_ct rfl _ _ w.heap.size 32 #[.int .u8 2, .string (a0.extract 0 n.toNat), .int .i64 0] (0, 0) _ rfl (res_done (res_blk (Below.refl _ _)) _ _ _) Tryd.underlying32 rfl (by kernel_rfl)) rfl ⟨rfl, res_below (Below.refl _ _) _ _ _⟩

/-- What the three signs of two bytes are, by their number. -/
def twoSign (i : Nat) : ByteArray := match i with | 0 => ⟨#[60, 62]⟩ | 1 => ⟨#[60, 61]⟩ | _ => ⟨#[62, 61]⟩
set_option maxHeartbeats 8000000 in
theorem next_sign (k : Nat) (a0 : ByteArray) (r1 : Int) (r2 : ByteArray) (r3 r4 : Int) (w : World) (hs : 0 < a0.size) (h1 : hasP a0 ⟨#[120, 39]⟩ = false) (h2 : ¬ bt a0 0 = 39) (h3 : letterB (bt a0 0) = false) (h4 : digitB (bt a0 0) = false) (h : lexer_next.f k a0 = some (r1, r2, r3, r4)) :
    Calls Tryd.prog 9 #[.string a0] w (NextPost w r1 r2 r3 r4) := by
  unfold lexer_next.f at h
  rw [if_neg (by omega), if_neg (by rw [h1]; decide), if_neg h2, if_neg (by rw [h3]; decide), if_neg (by rw [h4]; decide)] at h
  have HR := Aside0.mk (Option.some.inj h)
  have HP := Aside0.mk ((hasP_f a0 ⟨#[120, 39]⟩).trans (congrArg some h1))
  have HL := Aside0.mk h3
  have HD := Aside0.mk h4
  have hs' : (0 : Int) < a0.size := by omega
  have hq : (wrap32 (a0[0].toNat : Int) == 39) = false := by rw [bt_zero a0 hs, wrap_bt]; exact beq_eq_false_iff_ne.2 h2
  have hw : wrap32 (a0[0].toNat : Int) = bt a0 0 := by rw [bt_zero a0 hs, wrap_bt]
  have HW := Aside0.mk hw
  clear h1 h2 h3 h4 h hw
  have i0 : ∀ w, (Instr.index 45 (.agg #[.string ⟨#[60, 62]⟩, .string ⟨#[60, 61]⟩, .string ⟨#[62, 61]⟩]) (.int .i64 0)).run Tryd.prog w = .ok (.string ⟨#[60, 62]⟩) w := fun _ => by kernel_rfl
  have i1 : ∀ w, (Instr.index 45 (.agg #[.string ⟨#[60, 62]⟩, .string ⟨#[60, 61]⟩, .string ⟨#[62, 61]⟩]) (.int .i64 1)).run Tryd.prog w = .ok (.string ⟨#[60, 61]⟩) w := fun _ => by kernel_rfl
  have i2 : ∀ w, (Instr.index 45 (.agg #[.string ⟨#[60, 62]⟩, .string ⟨#[60, 61]⟩, .string ⟨#[62, 61]⟩]) (.int .i64 2)).run Tryd.prog w = .ok (.string ⟨#[62, 61]⟩) w := fun _ => by kernel_rfl
  go_enter Tryd.func9, Tryd.ntmps9
  go_wp2_with fail
  refine (strings_HasPrefix.calls a0 _ _ _ HP.out).mono ?_
  rintro e w' ⟨rfl, ⟨m, rfl⟩⟩
  go_wp2_with fail
  rw [HW.out]
  refine (pred_calls_letter _ _).mono ?_
  rw [HL.out]
  rintro e w2 ⟨rfl, ⟨m2, rfl⟩⟩
  go_wp2_with fail
  refine (pred_calls_digit _ _).mono ?_
  rw [HD.out]
  rintro e w3 ⟨rfl, ⟨m3, rfl⟩⟩
  go_wp2_with fail
  have P0 := Aside0.mk (hasP_f a0 ⟨#[60, 62]⟩)
  have P1 := Aside0.mk (hasP_f a0 ⟨#[60, 61]⟩)
  have P2 := Aside0.mk (hasP_f a0 ⟨#[62, 61]⟩)
  go_loopw [62] (fun v wr => ∃ i : Nat, v = .int .i64 i ∧ i ≤ 3 ∧ Aside0 (∀ j, j < i → hasP a0 (twoSign j) = false) ∧ Aside0 (∃ M, wr = (w.alloc (.cells #[.int .u8 0, .string ⟨#[]⟩, .int .i64 0] 32)).drewN M)) (fun v _ => 3 - (intOf v).toNat)
  case atStart => exact ⟨0, rfl, by omega, ⟨fun j hj => by omega⟩, ⟨⟨_, rfl⟩⟩⟩
  case round =>
    obtain ⟨i, rfl, hi, HF, ⟨⟨M, rfl⟩⟩⟩ := hrel
    rcases (show i = 0 ∨ i = 1 ∨ i = 2 ∨ i = 3 by omega) with rfl | rfl | rfl | rfl
    · cases hx : hasP a0 ⟨#[60, 62]⟩ with
      | true =>
        have HX := Aside0.mk hx
        clear hx
        have hr := HR.out
        unfold signTok at hr
        rw [if_pos HX.out] at hr
        injection hr with e1 h; injection h with e2 h; injection h with e3 e4
        subst e1 e2 e3 e4
        clear HR
        go_wp2_with fail
        refine (strings_HasPrefix.calls a0 _ _ _ (P0.out.trans (congrArg some HX.out))).mono ?_
        rintro e w5 ⟨rfl, ⟨m5, rfl⟩⟩
        go_wp2_with fail
        exact bodyPost_ret (results_ct rfl _ _ w.heap.size 32 #[.int .u8 5, .string ⟨#[60, 62]⟩, .int .i64 0] (0, 0) _ rfl (res_done (res_blk (Below.refl _ _)) _ _ _) Tryd.underlying32 rfl (by kernel_rfl)) rfl ⟨rfl, res_below (Below.refl _ _) _ _ _⟩
      | false =>
        have HX := Aside0.mk hx
        clear hx
        go_wp2_with fail
        refine (strings_HasPrefix.calls a0 _ _ _ (P0.out.trans (congrArg some HX.out))).mono ?_
        rintro e w5 ⟨rfl, ⟨m5, rfl⟩⟩
        go_wp2_with fail
        go_roundw
        case rel => exact ⟨1, rfl, by omega, ⟨fun j hj => by rcases (show j < 0 ∨ j = 0 by omega) with h | rfl; exact HF.out j h; exact HX.out⟩, ⟨⟨_, rfl⟩⟩⟩
        case measure => simp [intOf]
    · cases hx : hasP a0 ⟨#[60, 61]⟩ with
      | true =>
        have HX := Aside0.mk hx
        clear hx
        have hr := HR.out
        unfold signTok at hr
        rw [if_neg (by rw [show hasP a0 ⟨#[60, 62]⟩ = false from HF.out 0 (by decide)]; decide), if_pos HX.out] at hr
        injection hr with e1 h; injection h with e2 h; injection h with e3 e4
        subst e1 e2 e3 e4
        clear HR
        go_wp2_with fail
        refine (strings_HasPrefix.calls a0 _ _ _ (P1.out.trans (congrArg some HX.out))).mono ?_
        rintro e w5 ⟨rfl, ⟨m5, rfl⟩⟩
        go_wp2_with fail
        exact bodyPost_ret (results_ct rfl _ _ w.heap.size 32 #[.int .u8 5, .string ⟨#[60, 61]⟩, .int .i64 0] (0, 0) _ rfl (res_done (res_blk (Below.refl _ _)) _ _ _) Tryd.underlying32 rfl (by kernel_rfl)) rfl ⟨rfl, res_below (Below.refl _ _) _ _ _⟩
      | false =>
        have HX := Aside0.mk hx
        clear hx
        go_wp2_with fail
        refine (strings_HasPrefix.calls a0 _ _ _ (P1.out.trans (congrArg some HX.out))).mono ?_
        rintro e w5 ⟨rfl, ⟨m5, rfl⟩⟩
        go_wp2_with fail
        go_roundw
        case rel => exact ⟨2, rfl, by omega, ⟨fun j hj => by rcases (show j < 1 ∨ j = 1 by omega) with h | rfl; exact HF.out j h; exact HX.out⟩, ⟨⟨_, rfl⟩⟩⟩
        case measure => simp [intOf]
    · cases hx : hasP a0 ⟨#[62, 61]⟩ with
      | true =>
        have HX := Aside0.mk hx
        clear hx
        have hr := HR.out
        unfold signTok at hr
        rw [if_neg (by rw [show hasP a0 ⟨#[60, 62]⟩ = false from HF.out 0 (by decide)]; decide), if_neg (by rw [show hasP a0 ⟨#[60, 61]⟩ = false from HF.out 1 (by decide)]; decide), if_pos HX.out] at hr
        injection hr with e1 h; injection h with e2 h; injection h with e3 e4
        subst e1 e2 e3 e4
        clear HR
        go_wp2_with fail
        refine (strings_HasPrefix.calls a0 _ _ _ (P2.out.trans (congrArg some HX.out))).mono ?_
        rintro e w5 ⟨rfl, ⟨m5, rfl⟩⟩
        go_wp2_with fail
        exact bodyPost_ret (results_ct rfl _ _ w.heap.size 32 #[.int .u8 5, .string ⟨#[62, 61]⟩, .int .i64 0] (0, 0) _ rfl (res_done (res_blk (Below.refl _ _)) _ _ _) Tryd.underlying32 rfl (by kernel_rfl)) rfl ⟨rfl, res_below (Below.refl _ _) _ _ _⟩
      | false =>
        have HX := Aside0.mk hx
        clear hx
        go_wp2_with fail
        refine (strings_HasPrefix.calls a0 _ _ _ (P2.out.trans (congrArg some HX.out))).mono ?_
        rintro e w5 ⟨rfl, ⟨m5, rfl⟩⟩
        go_wp2_with fail
        go_roundw
        case rel => exact ⟨3, rfl, by omega, ⟨fun j hj => by rcases (show j < 2 ∨ j = 2 by omega) with h | rfl; exact HF.out j h; exact HX.out⟩, ⟨⟨_, rfl⟩⟩⟩
        case measure => simp [intOf]
    · have hr := HR.out
      unfold signTok at hr
      rw [if_neg (by rw [show hasP a0 ⟨#[60, 62]⟩ = false from HF.out 0 (by decide)]; decide), if_neg (by rw [show hasP a0 ⟨#[60, 61]⟩ = false from HF.out 1 (by decide)]; decide), if_neg (by rw [show hasP a0 ⟨#[62, 61]⟩ = false from HF.out 2 (by decide)]; decide)] at hr
      have hb : (a0[0].toNat : Int) = bt a0 0 := bt_zero a0 hs
      have HI : Aside0 (strings_IndexByte.f signs (a0[0].toNat : Int) = some (Lib.indexByte signs.data.toList (bt a0 0).toNat.toUInt8)) := ⟨by rw [hb]; rfl⟩
      clear hb
      have h1' : (1 : Int) ≤ a0.size := by omega
      by_cases hneg : Lib.indexByte signs.data.toList (bt a0 0).toNat.toUInt8 < 0
      · rw [if_pos hneg] at hr
        injection hr with e1 h; injection h with e2 h; injection h with e3 e4
        subst e1 e2 e3 e4
        clear HR
        go_wp2_with fail
        refine (strings_IndexByte.calls signs _ _ _ HI.out).mono ?_
        rintro e w5 ⟨rfl, ⟨m5, rfl⟩⟩
        go_wp2_with fail
        exact bodyPost_ret (results_ct rfl _ _ w.heap.size 32 #[.int .u8 0, .string ⟨#[]⟩, .int .i64 0] (0, 0) _ rfl (res_done (res_blk (Below.refl _ _)) _ _ _) Tryd.underlying32 rfl (by kernel_rfl)) rfl ⟨rfl, res_below (Below.refl _ _) _ _ _⟩
      · rw [if_neg hneg] at hr
        injection hr with e1 h; injection h with e2 h; injection h with e3 e4
        subst e1 e2 e3 e4
        clear HR
        have hpos : 0 ≤ Lib.indexByte signs.data.toList (bt a0 0).toNat.toUInt8 := by omega
        obtain ⟨z, hz⟩ : ∃ z, z = Lib.indexByte signs.data.toList (bt a0 0).toNat.toUInt8 := ⟨_, rfl⟩
        rw [← hz] at HI hpos
        clear hneg hz
        go_wp2_with fail
        refine (strings_IndexByte.calls signs _ _ _ HI.out).mono ?_
        rintro e w5 ⟨rfl, ⟨m5, rfl⟩⟩
        go_wp2_with fail
        exact bodyPost_ret (results_ct rfl _ _ w.heap.size 32 #[.int .u8 5, .string (a0.extract 0 1), .int .i64 0] (0, 0) _ rfl (res_done (res_blk (Below.refl _ _)) _ _ _) Tryd.underlying32 rfl (by kernel_rfl)) rfl ⟨rfl, res_below (Below.refl _ _) _ _ _⟩

theorem lexer_next.calls (k : Nat) (a0 : ByteArray) (r1 : Int) (r2 : ByteArray) (r3 r4 : Int) (w : World) (h : lexer_next.f k a0 = some (r1, r2, r3, r4)) :
    Calls Tryd.prog 9 #[.string a0] w fun e w' => e = .returned (.tuple #[.agg #[.int .u8 r1, .string r2, .int .i64 r3], .int .i64 r4]) ∧ Below w.heap.size w w' := by
  by_cases hs : a0.size = 0
  · unfold lexer_next.f at h; rw [if_pos hs] at h; cases h
  have hs' : 0 < a0.size := by omega
  cases h1 : hasP a0 ⟨#[120, 39]⟩ with
  | true => exact next_octets k a0 r1 r2 r3 r4 w hs' h1 h
  | false =>
    by_cases h2 : bt a0 0 = 39
    · exact next_text k a0 r1 r2 r3 r4 w hs' h1 h2 h
    · cases h3 : letterB (bt a0 0) with
      | true => exact next_word k a0 r1 r2 r3 r4 w hs' h1 h2 h3 h
      | false =>
        cases h4 : digitB (bt a0 0) with
        | true => exact next_number k a0 r1 r2 r3 r4 w hs' h1 h2 h3 h4 h
        | false => exact next_sign k a0 r1 r2 r3 r4 w hs' h1 h2 h3 h4 h
end Go.Proofs.YtnmdlimpfckicaaDoor.X
