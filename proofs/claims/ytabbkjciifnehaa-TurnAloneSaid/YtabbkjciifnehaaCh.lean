/-
  FOUNDATION: CHANNELS of one's own: make(chan T, n), a send that is tried (select with one send and a default). No program in sight.
-/
import Derived.Test.YtabbkjciifnehaaFp
import Derived.Test.YtabbkjciifnehaaFt
set_option linter.unusedVariables false
set_option linter.unusedSimpArgs false
namespace Go.PB
open Go.Conc

/-- a handler that lets a send be tried on a channel of one's own -/
class Chans (B : Hand) : Prop where
  mono : ∀ cases bl sh h x (k k' : Value → Hp → B.X → Prop), (∀ v h x, k v h x → k' v h x) → B.comm cases bl sh h x k → B.comm cases bl sh h x k'
  try_ : ∀ (c : Nat) (v z : Value) (cap : Nat) (buf : Array Value) (s r : Nat) (tm : Bool) (h : Hp) (x : B.X) (k : Value → Hp → B.X → Prop), h.obj c = some (.chan cap buf false s r tm) →
    (buf.size < cap → k (.tuple #[goInt 0, .bool false]) (h.setObj c (.chan cap (buf.push v) false (s + 1) r tm)) x) → (cap ≤ buf.size → k (.tuple #[goInt (-1), .bool false]) h x) → B.comm #[scase c v z] false .select h x k

instance : Chans solo0 where
  mono := fun cases bl sh h x k k' hk ⟨c, v, z, cap, buf, s, r, tm, e1, e2, e3, e4, h1, h2⟩ => ⟨c, v, z, cap, buf, s, r, tm, e1, e2, e3, e4, fun a => hk _ _ _ (h1 a), fun a => hk _ _ _ (h2 a)⟩
  try_ := fun c v z cap buf s r tm h x k e h1 h2 => ⟨c, v, z, cap, buf, s, r, tm, rfl, rfl, rfl, e, h1, h2⟩

section
variable {P : Program} {B : Hand} {kd : CallKind}

/-- AN OPERATION THAT SPEAKS TO A CHANNEL. -/
theorem wr_comm [Chans B] {ops : Array Oper} {i : Nat} {l : List Nat} {K : Post B} {t : Array Value} {z : Z} {h : Hp} {x : B.X} {o : Oper} {cases : Array CommCase} {bl : Bool} {sh : CommShape} (ho : ops[i]? = some o) (hw : Region.wanted o (yielded ops t) = true)
    (hx : ∀ w, (execOp (evT t) o).runT P w #[] = (.ok (.comm cases bl sh) w, #[])) (hc : B.comm cases bl sh h x fun v h' x' => Wr P B kd ops l K (setDst o t v) z h' x') : Wr P B kd ops (i :: l) K t z h x :=
  fun main S C b k cs hb ha => by
    refine C.comm _ _ _ _ o cases bl sh ⟨rfl, rfl, ops, i, l, k, rfl, ho, hw⟩ (fun w _ => by rw [eval_mkFr]; exact hx w) (Chans.mono _ _ _ _ _ _ _ (fun v h' x' q => ?_) hc)
    rw [finish_mkFr ho v]
    exact q main S C b k cs hb ha

theorem runT_zero {el : TypeId} {zv : Value} (z : zeroOf P el = some zv) {α : Type} {k : Value → Sem α} {w : World} {es : Array Event} : (Sem.bind (zeroValue el) k).runT P w es = (k zv).runT P w es := by
  unfold zeroOf at z
  cases hi : P.info? el with
  | none => rw [hi] at z; cases z
  | some i =>
    rw [hi] at z
    simp only [Option.bind_some] at z
    show (Sem.bind (Sem.bind (match P.info? el with | some d => pure d | none => stuck "no such type") fun i => match i.zero with | some v => pure v | none => unsupported (.resourceLimit "a value of more than 2^22 cells")) k).runT P w es = _
    rw [hi]
    show (Sem.bind (match i.zero with | some v => pure v | none => unsupported (.resourceLimit "a value of more than 2^22 cells")) k).runT P w es = _
    rw [z]; rfl

/-- a channel of one's own, open -/
abbrev chC (c cap : Nat) (buf : Array Value) (s r : Nat) : HProp := ob c (.chan cap buf false s r false)

variable {n : Nat} {e : Env} {z : Z} {L F : List HProp} {x : B.X} {K : Post B} {ty : TypeId}

/-- A SEND THAT IS TRIED. -/
theorem wo_try [Chans B] {l : List OpG} {d : Option Nat} {co vo : Operand} {el ty : TypeId} {g : Option (Nat × Bool)} {c cap : Nat} {buf : Array Value} {s r : Nat} {v zv : Value} [zr : Zer P el zv] (hc : ev e co = some (.chan (some c))) (hv : ev e vo = some v) (hg : gYes e g) (hh : Has L (chC c cap buf s r) F)
    (k1 : buf.size < cap → Wo P B kd n l K (setE d (.tuple #[goInt 0, .bool false]) e) z (chC c cap (buf.push v) (s + 1) r :: F) x)
    (k2 : cap ≤ buf.size → Wo P B kd n l K (setE d (.tuple #[goInt (-1), .bool false]) e) z L x) :
    Wo P B kd n (⟨d, .select #[⟨co, some vo, el⟩] false, ty, g⟩ :: l) K e z L x := by
  intro ops idx h1 h2 t h a1 a2 a3
  obtain ⟨i, idx', oo, rfl, h3, h4, h5, h6, h7, h8⟩ := map_head h1
  have hobj := (star_setObj (o' := .chan cap (buf.push v) false (s + 1) r false) (hh.star a3))
  have hcv : evT t co = .chan (some c) := a2.ev hc
  have hvv : evT t vo = v := a2.ev hv
  refine wr_comm (cases := #[scase c v zv]) (bl := false) (sh := .select) h4 (wanted_yes a1 a2 h8 hg) (fun w => ?_) (Chans.try_ _ _ _ _ _ _ _ _ _ _ _ hobj.1 (fun hlt => ?_) (fun hle => ?_))
  · rw [execOp_of _ h6 h7]
    show ((#[(⟨co, some vo, el⟩ : SelectCase)].mapM fun s => do pure { chan := evT t s.chan, send := s.send.map (evT t), zero := ← zeroValue s.elem : CommCase }) >>= fun cases => (pure (Next.comm cases false .select) : Sem Next)).runT P w #[] = _
    simp only [Array.mapM_eq_mapM_toList, List.mapM_cons, List.mapM_nil, pure_bind, bind_assoc, map_eq_pure_bind, Option.map_some, hcv, hvv]
    exact runT_zero zr.ok
  · exact k1 hlt ops idx' h3 (dOk_tail h2) _ _ ((setDst_size oo t _).trans a1) (a2.setE h5 (by rw [a1]; exact dOk_head h2) _) hobj.2
  · exact k2 hle ops idx' h3 (dOk_tail h2) _ _ ((setDst_size oo t _).trans a1) (a2.setE h5 (by rw [a1]; exact dOk_head h2) _) a3

/-- make(chan T, n) -/
theorem mo_makeChan {t el by_ m : Nat} {dr : ChanDir} {o : Operand} {k : IntKind} [p : Und P t (.chan dr el)] [b : Byt P el by_] (hx : ev e o = some (.int k (m : Nat))) (hm : m ≤ 1048576) (hb : by_ ≤ 1048576) : Mo P e (.makeChan t o) ty L fun v' L' => ∃ c, v' = .chan (some c) ∧ L' = chC c m #[] 0 0 :: L := by
  intro M hM _ tt h Q X ag st q
  show wpS P M (Sem.bind (Instr.makeChan t (evT tt o)) fun v => pure (.value v)) h Q X
  rw [ag.ev hx]
  refine wpS_bind _ _ ?_
  unfold Instr.makeChan
  simp only [asInt, asIntOf, pure_bind, bind_assoc]
  refine wpS_underlying p.ok ?_
  refine wpS_bytes b.ok fun i hi => ?_
  have hmul : by_ * m ≤ 1048576 * 1048576 := Nat.mul_le_mul hb hm
  obtain ⟨q', hq'⟩ : ∃ q, by_ * m = q := ⟨_, rfl⟩
  rw [hi, if_neg (by
    rw [← Int.natCast_mul, hq']
    rw [hq'] at hmul
    have hmax : IntKind.i64.max = 9223372036854775807 := rfl
    omega)]
  simp only [pure_bind, Int.toNat_natCast]
  intro c hf
  exact q _ _ _ _ (.inl rfl) ⟨c, rfl, rfl⟩ (star_newObj hf st)
theorem eql_chan_nil {t el : TypeId} {dr : ChanDir} [p : Und P t (.chan dr el)] {x y : Operand} {a : Option Nat} : Eql P t x y (.chan a) (.chan none) a.isNone :=
  .of (fun op h => by rcases h with rfl | rfl <;> rfl) rfl rfl fun M h Q X q => by
    rw [equal_def]
    refine wpS_underlying p.ok ?_
    cases a <;> exact q
end
end Go.PB
