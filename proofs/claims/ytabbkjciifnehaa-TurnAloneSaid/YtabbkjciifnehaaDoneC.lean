/-
  A THREAD's LAST DEED, sync.WaitGroup's Done as a deferred call, step by step: its stops ('ZR' .. 'Z4'), and that it comes to them ('done_goes'). Of any program that holds the library's functions.
-/
import Derived.Test.YtabbkjciifnehaaGame
import Derived.Conc.WgGenN2
set_option linter.unusedVariables false
set_option linter.unusedSimpArgs false
namespace Go.PB
open Go.Conc Go.Conc.Lib Go.ConcR.Gen
open Go.ConcR (KK stA smA rd wr mk DC0)

/-- the group's block (thawed) -/
def WgAt (ty : TypeId) (wg : Nat) (w : World) (st sm : Int) : Prop := ∃ f : Nat × Nat, w.heap[wg]? = some (.cells #[.int .u64 st, .int .u32 sm] ty f) ∧ w.frozen? ⟨wg, 0, none⟩ = false ∧ w.frozen? ⟨wg, 1, none⟩ = false
section
variable {ty : TypeId} {wg : Nat} {w w' : World} {st sm : Int}
theorem WgAt.cellSt (h : WgAt ty wg w st sm) : w.cell? (stA wg) = some (.int .u64 st) := by obtain ⟨f, h, _⟩ := h; simp [World.cell?, stA, h]
theorem WgAt.cellSm (h : WgAt ty wg w st sm) : w.cell? (smA wg) = some (.int .u32 sm) := by obtain ⟨f, h, _⟩ := h; simp [World.cell?, smA, h]
theorem WgAt.thaw (h : WgAt ty wg w st sm) (n : Nat) (hn : n < 2 := by decide) : w.frozen? ⟨wg, n, none⟩ = false := by
  obtain ⟨f, _, h0, h1⟩ := h
  rcases n with _ | _ | n
  · exact h0
  · exact h1
  · omega
theorem WgAt.unique {st' sm' : Int} (h : WgAt ty wg w st sm) (h' : WgAt ty wg w st' sm') : st = st' ∧ sm = sm' := by
  obtain ⟨f, h, _⟩ := h
  obtain ⟨f', h', _⟩ := h'
  rw [h] at h'
  simp at h'
  exact ⟨h'.1.1, h'.1.2⟩
theorem WgAt.setSt (h : WgAt ty wg w st sm) (v : Int) : WgAt ty wg (w.setCell (stA wg) (.int .u64 v)) v sm := by
  obtain ⟨f, h, h0, h1⟩ := h
  refine ⟨f, ?_, by rw [frozen_setCell]; exact h0, by rw [frozen_setCell]; exact h1⟩
  simp [World.setCell, stA, Array.getElem?_modify, h]
theorem WgAt.setSm (h : WgAt ty wg w st sm) (v : Int) : WgAt ty wg (w.setCell (smA wg) (.int .u32 v)) st v := by
  obtain ⟨f, h, h0, h1⟩ := h
  refine ⟨f, ?_, by rw [frozen_setCell]; exact h0, by rw [frozen_setCell]; exact h1⟩
  simp [World.setCell, smA, Array.getElem?_modify, h]
theorem WgAt.of_heap (h : WgAt ty wg w st sm) (e : w'.heap[wg]? = w.heap[wg]?) : WgAt ty wg w' st sm := by
  obtain ⟨f, h, h0, h1⟩ := h
  have hf : ∀ o, w'.frozen? ⟨wg, o, none⟩ = w.frozen? ⟨wg, o, none⟩ := fun o => by unfold World.frozen?; rw [e]
  exact ⟨f, e.trans h, (hf 0).trans h0, (hf 1).trans h1⟩
def WgLive (ty : TypeId) (Wg : Nat) (w : World) : Prop := ∃ st sm, WgAt ty Wg w st sm
end

/-- what others may do meanwhile: the group's block stays one -/
def RL (ty : TypeId) (Wg : Nat) (w w₁ : World) : Prop := WgLive ty Wg w → WgLive ty Wg w₁

theorem live_cell {ty : TypeId} {Wg : Nat} {w : World} (h : WgLive ty Wg w) : ∃ v, w.cell? ⟨Wg, 0, none⟩ = some v := let ⟨_, _, x⟩ := h; ⟨_, WgAt.cellSt x⟩

section
variable (P : Program) (ty : TypeId) (Wg : Nat)
def Zg (Stop : Goroutine → World → Prop) (m : Nat) (g : Goroutine) (w : World) : Prop := Goes P false (RL ty Wg) DC0 Stop m g w
/-- it lets the starter go -/
def Z4 (g : Goroutine) (w : World) : Prop :=
  g.status = .running ∧ mayWake P g = true ∧ (WgAt ty Wg w 0 0 → ∃ g' q, stepG P false g w = .go g' (w.setCell (smA Wg) (.int .u32 1)) (semEvents (smA Wg)) ∧ QuitsD P q 1 g')
def Z3 (g : Goroutine) (w : World) : Prop :=
  g.status = .running ∧ (WgAt ty Wg w 1 0 → ∃ g' m, stepG P false g w = .go g' (w.setCell (stA Wg) (.int .u64 0)) #[wr (stA Wg)] ∧ Zg P ty Wg (Z4 P ty Wg) m g' (w.setCell (stA Wg) (.int .u64 0)))
def Z2 (g : Goroutine) (w : World) : Prop :=
  g.status = .running ∧ (WgAt ty Wg w 1 0 → ∃ g' m, stepG P false g w = .go g' w #[rd (stA Wg)] ∧ Zg P ty Wg (Z3 P ty Wg) m g' w)
/-- it counts itself out -/
def Z1 (g : Goroutine) (w : World) : Prop :=
  g.status = .running ∧ ∀ v wt : Nat, wt ≤ 1 → v < 2147483647 → WgAt ty Wg w ((v + 1) * KK + wt) 0 →
    ∃ g', stepG P false g w = .go g' (w.setCell (stA Wg) (.int .u64 (v * KK + wt))) #[rd (stA Wg), wr (stA Wg)] ∧
      ((v = 0 ∧ wt = 1) → ∃ m, Zg P ty Wg (Z2 P ty Wg) m g' (w.setCell (stA Wg) (.int .u64 (v * KK + wt)))) ∧ (¬ (v = 0 ∧ wt = 1) → ∃ q, QuitsD P q 1 g')
def ZK (g : Goroutine) (w : World) : Prop :=
  g.status = .running ∧ ∃ g' m, stepG P false g w = .go g' w #[mk .disable] ∧ Zg P ty Wg (Z1 P ty Wg) m g' w
/-- it says that it's through -/
def ZR (g : Goroutine) (w : World) : Prop :=
  g.status = .running ∧ ∃ g' m, stepG P false g w = .go g' w #[mk (.releaseMerge (stA Wg))] ∧ Zg P ty Wg (ZK P ty Wg) m g' w
end

end Go.PB
/-
  sync.WaitGroup's Done as a deferred call comes to its stops ('done_goes'). Of any program that holds the library's functions.
-/
set_option linter.unusedVariables false
set_option linter.unusedSimpArgs false
namespace Go.PB
open Go.Conc Go.Conc.Lib Go.ConcR.Gen
open Go.ConcR (KK stA smA rd wr mk DC0)

theorem quits_more {P : Program} : ∀ {n d : Nat} {g : Goroutine}, QuitsD P n d g → QuitsD P (n + 1) d g
  | 0, _, _, h => .inl h
  | _ + 1, _, _, h => h.imp id fun ⟨hs, g', es, hm, hst, hq⟩ => ⟨hs, g', es, hm, hst, quits_more hq⟩
theorem quits_mono {P : Program} {n n' d : Nat} {g : Goroutine} (h : QuitsD P n d g) (hn : n ≤ n') : QuitsD P n' d g := by
  induction hn with
  | refl => exact h
  | step _ ih => exact quits_more ih

set_option maxRecDepth 100000 in
set_option maxHeartbeats 8000000 in
theorem add_goes [Go.ConcR.Payload] {P : Program} {L : WgLink} (H : WgLib P L) {Wg : Nat} {b₀ : Frame} {a₀ : Act} {ops₀ : Array Oper} {i₀ : Nat} {rest₀ : List Nat} {k₀ : List Item} {cs : List Frame} {qt : Nat}
    (hT : QuitsD P qt 0 (G (b₀.at (a₀.put ((ops₀[i₀]?).bind (·.dst)) (.tuple #[])) (.inRegion ops₀ rest₀ :: k₀)) cs)) (w : World) (hK : WgLive L.tWg Wg w) :
    Zg P L.tWg Wg (ZR P L.tWg Wg) 20 (G ((Go.Conc.base L.add).at ⟨#[.pointer (some ⟨Wg, 0, none⟩), .int .i64 (-1)] ++ Array.replicate 115 undef, []⟩ [.code (body_add L)]) (b₀.at a₀ (.inRegion ops₀ (i₀ :: rest₀) :: k₀) :: cs)) w := by
  lib_facts
  simp only [body_add, addFn, Option.getD_some, Array.replicate_succ, Array.replicate_zero]
  unfold Zg
  have key : ∀ {w w₁ : World}, WgLive L.tWg Wg w → RL L.tWg Wg w w₁ → WgLive L.tWg Wg w₁ := fun h r => r h
  walk_nrm
  repeat (first
    | u_c stepG_seq key hK
    | u_c stepG_region_end key hK
    | u_c stepG_skip key hK
    | u_reg key hK
    | u_skip key hK
    | u_op key hK
    | u_cond true key hK
    | u_cond false key hK
    | u_c stepG_ret' key hK
    | u_c stepG_block key hK
    | u_c stepG_loop key hK
    | u_c stepG_end key hK
    | u_defer key hK
    | u_leave1 H.f_uAdd key hK
    | u_leave1 H.f_uLoad key hK
    | u_leave0 H.f_uStore key hK
    | u_call H.f_uAdd (nm_uAdd L) uAddFn key hK
    | u_call H.f_uLoad (nm_uLoad L) uLoadFn key hK
    | u_call H.f_uStore (nm_uStore L) uStoreFn key hK
    | u_bub key hK)
  u_conv H.underlying_tWgP H.room_tWg (live_cell hK).choose_spec key hK
  refine Goes.stop (fun w₁ h₁ => ?_)
  replace hK := key hK h₁
  clear h₁
  refine ⟨rfl, _, 30, stepG_markAt .releaseMerge (by simp) rfl rfl (by k_ne) rfl H.f_relMerge (x_relMerge_n L) (x_relMerge_b L) (x_relMerge_x L) (x_relMerge_f L) (by simp [Act.eval, stA]), ?_⟩
  unfold Zg
  walk_nrm
  repeat (first
    | u_c stepG_seq key hK
    | u_c stepG_region_end key hK
    | u_c stepG_skip key hK
    | u_reg key hK
    | u_skip key hK
    | u_op key hK
    | u_cond true key hK
    | u_cond false key hK
    | u_c stepG_ret' key hK
    | u_c stepG_block key hK
    | u_c stepG_loop key hK
    | u_c stepG_end key hK
    | u_defer key hK
    | u_leave1 H.f_uAdd key hK
    | u_leave1 H.f_uLoad key hK
    | u_leave0 H.f_uStore key hK
    | u_call H.f_uAdd (nm_uAdd L) uAddFn key hK
    | u_call H.f_uLoad (nm_uLoad L) uLoadFn key hK
    | u_call H.f_uStore (nm_uStore L) uStoreFn key hK
    | u_bub key hK)
  refine Goes.stop (fun w₁ h₁ => ?_)
  replace hK := key hK h₁
  clear h₁
  refine ⟨rfl, _, 80, stepG_mark0 .disable (by simp) rfl rfl (by k_ne) rfl H.f_disable (x_disable_n L) (x_disable_b L) (x_disable_x L) (x_disable_f L), ?_⟩
  unfold Zg
  walk_nrm
  repeat (first
    | u_c stepG_seq key hK
    | u_c stepG_region_end key hK
    | u_c stepG_skip key hK
    | u_reg key hK
    | u_skip key hK
    | u_op key hK
    | u_cond true key hK
    | u_cond false key hK
    | u_c stepG_ret' key hK
    | u_c stepG_block key hK
    | u_c stepG_loop key hK
    | u_c stepG_end key hK
    | u_defer key hK
    | u_leave1 H.f_uAdd key hK
    | u_leave1 H.f_uLoad key hK
    | u_leave0 H.f_uStore key hK
    | u_call H.f_uAdd (nm_uAdd L) uAddFn key hK
    | u_call H.f_uLoad (nm_uLoad L) uLoadFn key hK
    | u_call H.f_uStore (nm_uStore L) uStoreFn key hK
    | u_bub key hK)
  refine Goes.stop (fun w₁ h₁ => ?_)
  clear h₁ hK
  refine ⟨rfl, fun v wt hwt hv hw => ?_⟩
  have e0 : IntKind.u64.wrap (KK + 18446744069414584320) = 0 := by decide
  have e1 : IntKind.u64.wrap (KK + 1 + 18446744069414584320) = 1 := by decide
  rcases Nat.eq_zero_or_pos v with rfl | hvp <;> (obtain rfl | rfl : wt = 0 ∨ wt = 1 := by omega)
  · -- nobody is left, nobody waits
    replace hw : WgAt L.tWg Wg w₁ KK 0 := by simpa using hw
    have z : ((0 : Nat) : Int) * KK + ((0 : Nat) : Int) = 0 := by simp
    rw [z]
    refine ⟨_, (stepG_add_atomic rfl rfl (by k_ne) rfl H.f_addU64 (x_addU64_n L) (x_addU64_b L) (x_addU64_x L) .u64 (x_addU64_f L) rfl rfl (WgAt.cellSt hw) (WgAt.thaw hw 0)).trans (by rw [e0]; rfl), fun hl => absurd hl.2 (by decide), fun _ => ⟨qt + 200, ?_⟩⟩
    clear hw
    walk_nrm
    q_val (.int .u64 0)
    q_c stepG_region_end
    q_c stepG_ret'
    q_leave1 H.f_uAdd
    q_val (.int .u64 0)
    q_c stepG_region_end
    q_c stepG_seq
    q_c stepG_seq
    q_reg
    q_val (.int .u64 0)
    q_val (.int .u64 0)
    q_val (.bool false)
    q_val (.bool false)
    q_skip
    q_skip
    q_val (.bool false)
    q_c stepG_region_end
    q_cond false
    q_c stepG_skip
    q_c stepG_seq
    q_reg
    q_val (.int .u64 0)
    q_val (.int .u64 0)
    q_val (.int .i32 0)
    q_val (.int .i32 0)
    q_c stepG_region_end
    q_c stepG_seq
    q_reg
    q_val (.int .u64 0)
    q_val (.int .u64 0)
    q_val (.int .u32 0)
    q_val (.int .u32 0)
    q_c stepG_region_end
    q_c stepG_seq
    q_c stepG_seq
    q_reg
    q_val (.bool true)
    q_val (.int .i64 (-1))
    q_val (.bool false)
    q_val (.bool false)
    q_val (.bool false)
    q_skip
    q_skip
    q_skip
    q_skip
    q_val (.bool false)
    q_c stepG_region_end
    q_cond false
    q_c stepG_skip
    q_c stepG_seq
    q_c stepG_seq
    q_reg
    q_val (.int .i32 0)
    q_val (.bool false)
    q_c stepG_region_end
    q_cond false
    q_c stepG_skip
    q_c stepG_seq
    q_c stepG_seq
    q_reg
    q_val (.int .u32 0)
    q_val (.bool false)
    q_val (.bool false)
    q_skip
    q_skip
    q_val (.bool false)
    q_val (.bool false)
    q_skip
    q_skip
    q_skip
    q_skip
    q_val (.bool false)
    q_c stepG_region_end
    q_cond false
    q_c stepG_skip
    q_c stepG_seq
    q_c stepG_seq
    q_reg
    q_val (.int .i32 0)
    q_val (.bool false)
    q_val (.bool false)
    q_val (.int .u32 0)
    q_val (.bool true)
    q_val (.bool true)
    q_c stepG_region_end
    q_cond true
    q_c stepG_ret'
    q_enable
    q_leave0 H.f_add
    exact quits_mono hT (by omega)
  · -- nobody is left, the starter waits: the last one
    replace hw : WgAt L.tWg Wg w₁ (KK + 1) 0 := by simpa using hw
    have z : ((0 : Nat) : Int) * KK + ((1 : Nat) : Int) = 1 := by simp
    rw [z]
    refine ⟨_, (stepG_add_atomic rfl rfl (by k_ne) rfl H.f_addU64 (x_addU64_n L) (x_addU64_b L) (x_addU64_x L) .u64 (x_addU64_f L) rfl rfl (WgAt.cellSt hw) (WgAt.thaw hw 0)).trans (by rw [e1]; rfl), fun _ => ⟨150, ?_⟩, fun hl => absurd ⟨rfl, rfl⟩ hl⟩
    have hK : WgLive L.tWg Wg (w₁.setCell (stA Wg) (.int .u64 1)) := ⟨_, _, WgAt.setSt hw 1⟩
    clear hw
    unfold Zg
    walk_nrm
    u_op key hK
    u_c stepG_region_end key hK
    u_c stepG_ret' key hK
    u_leave1 H.f_uAdd key hK
    u_op key hK
    u_c stepG_region_end key hK
    u_c stepG_seq key hK
    u_c stepG_seq key hK
    u_reg key hK
    u_op key hK
    u_op key hK
    u_op key hK
    u_op key hK
    u_skip key hK
    u_skip key hK
    u_op key hK
    u_c stepG_region_end key hK
    u_cond false key hK
    u_c stepG_skip key hK
    u_c stepG_seq key hK
    u_reg key hK
    u_op key hK
    u_op key hK
    u_op key hK
    u_op key hK
    u_c stepG_region_end key hK
    u_c stepG_seq key hK
    u_reg key hK
    u_op key hK
    u_op key hK
    u_op key hK
    u_op key hK
    u_c stepG_region_end key hK
    u_c stepG_seq key hK
    u_c stepG_seq key hK
    u_reg key hK
    u_op key hK
    u_op key hK
    u_op key hK
    u_op key hK
    u_op key hK
    u_skip key hK
    u_skip key hK
    u_skip key hK
    u_skip key hK
    u_op key hK
    u_c stepG_region_end key hK
    u_cond false key hK
    u_c stepG_skip key hK
    u_c stepG_seq key hK
    u_c stepG_seq key hK
    u_reg key hK
    u_op key hK
    u_op key hK
    u_c stepG_region_end key hK
    u_cond false key hK
    u_c stepG_skip key hK
    u_c stepG_seq key hK
    u_c stepG_seq key hK
    u_reg key hK
    u_op key hK
    u_op key hK
    u_op key hK
    u_op key hK
    u_op key hK
    u_op key hK
    u_op key hK
    u_skip key hK
    u_skip key hK
    u_skip key hK
    u_skip key hK
    u_op key hK
    u_c stepG_region_end key hK
    u_cond false key hK
    u_c stepG_skip key hK
    u_c stepG_seq key hK
    u_c stepG_seq key hK
    u_reg key hK
    u_op key hK
    u_op key hK
    u_op key hK
    u_op key hK
    u_op key hK
    u_op key hK
    u_c stepG_region_end key hK
    u_cond false key hK
    u_c stepG_skip key hK
    u_c stepG_seq key hK
    u_c stepG_seq key hK
    u_reg key hK
    u_op key hK
    u_op key hK
    u_op key hK
    u_call H.f_uLoad (nm_uLoad L) uLoadFn key hK
    u_c stepG_seq key hK
    u_reg key hK
    u_op key hK
    u_c stepG_region_end key hK
    u_c stepG_seq key hK
    u_reg key hK
    u_op key hK
    u_op key hK
    u_op key hK
    refine Goes.stop (fun w₂ h₂ => ?_)
    clear h₂ hK
    refine ⟨rfl, fun hw => ⟨_, 60, stepG_load_atomic rfl rfl (by k_ne) rfl H.f_loadU64 (x_loadU64_n L) (x_loadU64_b L) (x_loadU64_x L) .u64 (x_loadU64_f L) rfl (WgAt.cellSt hw), ?_⟩⟩
    have hK : WgLive L.tWg Wg w₂ := ⟨_, _, hw⟩
    clear hw
    unfold Zg
    walk_nrm
    u_op key hK
    u_c stepG_region_end key hK
    u_c stepG_ret' key hK
    u_leave1 H.f_uLoad key hK
    u_op key hK
    u_op key hK
    u_c stepG_region_end key hK
    u_cond false key hK
    u_c stepG_skip key hK
    u_c stepG_seq key hK
    u_reg key hK
    u_op key hK
    u_op key hK
    u_op key hK
    u_call H.f_uStore (nm_uStore L) uStoreFn key hK
    u_reg key hK
    u_op key hK
    u_op key hK
    u_op key hK
    u_op key hK
    refine Goes.stop (fun w₃ h₃ => ?_)
    clear h₃ hK
    refine ⟨rfl, fun hw => ⟨_, 60, stepG_store_atomic rfl rfl (by k_ne) rfl H.f_storeU64 (x_storeU64_n L) (x_storeU64_b L) (x_storeU64_x L) (x_storeU64_f L) rfl rfl (WgAt.cellSt hw) (WgAt.thaw hw 0), ?_⟩⟩
    have hK : WgLive L.tWg Wg (w₃.setCell (stA Wg) (.int .u64 0)) := ⟨_, _, WgAt.setSt hw 0⟩
    clear hw
    unfold Zg
    walk_nrm
    u_c stepG_region_end key hK
    u_c stepG_end key hK
    u_leave0 H.f_uStore key hK
    u_c stepG_region_end key hK
    u_c stepG_seq key hK
    u_c stepG_seq key hK
    u_reg key hK
    u_op key hK
    u_c stepG_region_end key hK
    u_cond false key hK
    u_c stepG_skip key hK
    u_c stepG_block key hK
    u_c stepG_loop key hK
    u_c stepG_seq key hK
    u_c stepG_seq key hK
    u_reg key hK
    u_op key hK
    u_op key hK
    u_c stepG_region_end key hK
    u_cond true key hK
    u_c stepG_skip key hK
    u_c stepG_seq key hK
    u_c stepG_block key hK
    u_reg key hK
    u_op key hK
    u_op key hK
    u_op key hK
    refine Goes.stop (fun w₄ h₄ => ?_)
    clear h₄ hK
    refine ⟨rfl, mayWake_entry rfl rfl H.f_semrelease (x_semrelease_b L), fun hw => ⟨_, qt + 40, (stepG_semrelease rfl rfl (by k_ne) rfl H.f_semrelease (x_semrelease_n L) (x_semrelease_b L) (x_semrelease_x L) (x_semrelease_f L) (by simp [Act.eval, smA]) (WgAt.cellSm hw) (WgAt.thaw hw 1)).trans (by rfl), ?_⟩⟩
    clear hw
    walk_nrm
    q_c stepG_region_end
    q_c stepG_inBlock
    q_reg
    q_val (.int .u32 1)
    q_val (.int .u32 0)
    q_val (.int .u32 0)
    q_c stepG_region_end
    q_c stepG_inLoop
    q_c stepG_seq
    q_c stepG_seq
    q_reg
    q_val (.int .u32 0)
    q_val (.bool false)
    q_c stepG_region_end
    q_cond false
    q_exit
    q_c stepG_end
    q_enable
    q_leave0 H.f_add
    exact quits_mono hT (by omega)
  · -- some are left, nobody waits
    replace hw : WgAt L.tWg Wg w₁ (((v : Nat) + 1) * KK + 0) 0 := by simpa using hw
    have z : ((v : Nat) : Int) * KK + ((0 : Nat) : Int) = (v : Int) * KK + 0 := by simp
    rw [z]
    have eS : IntKind.u64.wrap (((v : Nat) + 1) * KK + 0 + 18446744069414584320) = (v : Int) * KK + 0 := by rw [IntKind.wrap_u64]; simp only [KK]; omega
    obtain ⟨S, hS⟩ : ∃ S : Int, S = (v : Int) * KK + 0 := ⟨_, rfl⟩
    rw [← hS] at eS ⊢
    have a1 : S / 4294967296 = (v : Int) := by rw [hS]; simp only [KK]; omega
    have a2 : 0 ≤ S ∧ S < 9223372036854775808 := by rw [hS]; simp only [KK]; omega
    have b1 : bits .and .u64 S 2147483648 = 0 := by rw [hS]; have := Go.ConcN.st_flag v 0 (by omega) (by omega); simpa [KK] using this
    have b2 : bits .and .u64 S 2147483647 = 0 := by rw [hS]; have := Go.ConcN.st_waiters v 0 (by omega) (by omega); simpa [KK] using this
    clear hS z
    refine ⟨_, (stepG_add_atomic rfl rfl (by k_ne) rfl H.f_addU64 (x_addU64_n L) (x_addU64_b L) (x_addU64_x L) .u64 (x_addU64_f L) rfl rfl (WgAt.cellSt hw) (WgAt.thaw hw 0)).trans (by rw [eS]; rfl), fun hl => absurd hl.1 (by omega), fun _ => ⟨qt + 150, ?_⟩⟩
    clear hw
    walk_nrm
    q_vn (.int .u64 S)
    q_c stepG_region_end
    q_c stepG_ret'
    q_leave1 H.f_uAdd
    q_vn (.int .u64 S)
    q_c stepG_region_end
    q_c stepG_seq
    q_c stepG_seq
    q_reg
    q_vn (.int .u64 S)
    q_vn (.int .u64 0)
    q_vn (.bool false)
    q_vn (.bool false)
    q_skip
    q_skip
    q_vn (.bool false)
    q_c stepG_region_end
    q_cond false
    q_c stepG_skip
    q_c stepG_seq
    q_reg
    q_vn (.int .u64 S)
    q_vn (.int .u64 (v:Int))
    q_vn (.int .i32 (v:Int))
    q_vn (.int .i32 (v:Int))
    q_c stepG_region_end
    q_c stepG_seq
    q_reg
    q_vn (.int .u64 S)
    q_vn (.int .u64 0)
    q_vn (.int .u32 0)
    q_vn (.int .u32 0)
    q_c stepG_region_end
    q_c stepG_seq
    q_c stepG_seq
    q_reg
    q_vn (.bool true)
    q_vn (.int .i64 (-1))
    q_vn (.bool false)
    q_vn (.bool false)
    q_vn (.bool false)
    q_skip
    q_skip
    q_skip
    q_skip
    q_vn (.bool false)
    q_c stepG_region_end
    q_cond false
    q_c stepG_skip
    q_c stepG_seq
    q_c stepG_seq
    q_reg
    q_vn (.int .i32 (v:Int))
    q_vn (.bool false)
    q_c stepG_region_end
    q_cond false
    q_c stepG_skip
    q_c stepG_seq
    q_c stepG_seq
    q_reg
    q_vn (.int .u32 0)
    q_vn (.bool false)
    q_vn (.bool false)
    q_skip
    q_skip
    q_vn (.bool false)
    q_vn (.bool false)
    q_skip
    q_skip
    q_skip
    q_skip
    q_vn (.bool false)
    q_c stepG_region_end
    q_cond false
    q_c stepG_skip
    q_c stepG_seq
    q_c stepG_seq
    q_reg
    q_vn (.int .i32 (v:Int))
    q_vn (.bool true)
    q_vn (.bool true)
    q_skip
    q_skip
    q_vn (.bool true)
    q_c stepG_region_end
    q_cond true
    q_c stepG_ret'
    q_enable
    q_leave0 H.f_add
    exact quits_mono hT (by omega)
  · -- some are left, the starter waits
    replace hw : WgAt L.tWg Wg w₁ (((v : Nat) + 1) * KK + 1) 0 := by simpa using hw
    have z : ((v : Nat) : Int) * KK + ((1 : Nat) : Int) = (v : Int) * KK + 1 := by simp
    rw [z]
    have eS : IntKind.u64.wrap (((v : Nat) + 1) * KK + 1 + 18446744069414584320) = (v : Int) * KK + 1 := by rw [IntKind.wrap_u64]; simp only [KK]; omega
    obtain ⟨S, hS⟩ : ∃ S : Int, S = (v : Int) * KK + 1 := ⟨_, rfl⟩
    rw [← hS] at eS ⊢
    have a1 : S / 4294967296 = (v : Int) := by rw [hS]; simp only [KK]; omega
    have a2 : 0 ≤ S ∧ S < 9223372036854775808 := by rw [hS]; simp only [KK]; omega
    have b1 : bits .and .u64 S 2147483648 = 0 := by rw [hS]; have := Go.ConcN.st_flag v 1 (by omega) (by omega); simpa [KK] using this
    have b2 : bits .and .u64 S 2147483647 = 1 := by rw [hS]; have := Go.ConcN.st_waiters v 1 (by omega) (by omega); simpa [KK] using this
    clear hS z
    refine ⟨_, (stepG_add_atomic rfl rfl (by k_ne) rfl H.f_addU64 (x_addU64_n L) (x_addU64_b L) (x_addU64_x L) .u64 (x_addU64_f L) rfl rfl (WgAt.cellSt hw) (WgAt.thaw hw 0)).trans (by rw [eS]; rfl), fun hl => absurd hl.1 (by omega), fun _ => ⟨qt + 150, ?_⟩⟩
    clear hw
    walk_nrm
    q_vn (.int .u64 S)
    q_c stepG_region_end
    q_c stepG_ret'
    q_leave1 H.f_uAdd
    q_vn (.int .u64 S)
    q_c stepG_region_end
    q_c stepG_seq
    q_c stepG_seq
    q_reg
    q_vn (.int .u64 S)
    q_vn (.int .u64 0)
    q_vn (.bool false)
    q_vn (.bool false)
    q_skip
    q_skip
    q_vn (.bool false)
    q_c stepG_region_end
    q_cond false
    q_c stepG_skip
    q_c stepG_seq
    q_reg
    q_vn (.int .u64 S)
    q_vn (.int .u64 (v:Int))
    q_vn (.int .i32 (v:Int))
    q_vn (.int .i32 (v:Int))
    q_c stepG_region_end
    q_c stepG_seq
    q_reg
    q_vn (.int .u64 S)
    q_vn (.int .u64 1)
    q_vn (.int .u32 1)
    q_vn (.int .u32 1)
    q_c stepG_region_end
    q_c stepG_seq
    q_c stepG_seq
    q_reg
    q_vn (.bool true)
    q_vn (.int .i64 (-1))
    q_vn (.bool false)
    q_vn (.bool false)
    q_vn (.bool false)
    q_skip
    q_skip
    q_skip
    q_skip
    q_vn (.bool false)
    q_c stepG_region_end
    q_cond false
    q_c stepG_skip
    q_c stepG_seq
    q_c stepG_seq
    q_reg
    q_vn (.int .i32 (v:Int))
    q_vn (.bool false)
    q_c stepG_region_end
    q_cond false
    q_c stepG_skip
    q_c stepG_seq
    q_c stepG_seq
    q_reg
    q_vn (.int .u32 1)
    q_vn (.bool true)
    q_vn (.bool true)
    q_vn (.int .i64 (-1))
    q_vn (.bool false)
    q_vn (.bool false)
    q_vn (.bool false)
    q_skip
    q_skip
    q_skip
    q_skip
    q_vn (.bool false)
    q_c stepG_region_end
    q_cond false
    q_c stepG_skip
    q_c stepG_seq
    q_c stepG_seq
    q_reg
    q_vn (.int .i32 (v:Int))
    q_vn (.bool true)
    q_vn (.bool true)
    q_skip
    q_skip
    q_vn (.bool true)
    q_c stepG_region_end
    q_cond true
    q_c stepG_ret'
    q_enable
    q_leave0 H.f_add
    exact quits_mono hT (by omega)
end Go.PB
/-
  sync.WaitGroup's Done as a deferred call comes to its stops: its first steps ('done_goes'). Of any program that holds the library's functions.
-/
set_option linter.unusedVariables false
set_option linter.unusedSimpArgs false
namespace Go.PB
open Go.Conc Go.Conc.Lib Go.ConcR.Gen
open Go.ConcR (KK stA smA rd wr mk DC0)

set_option maxRecDepth 100000 in
theorem add_goes2 [Go.ConcR.Payload] {P : Program} {L : WgLink} (H : WgLib P L) {Wg : Nat} {b₀ : Frame} {a₀ : Act} {ops₀ : Array Oper} {i₀ : Nat} {rest₀ : List Nat} {k₀ : List Item} {cs : List Frame} {qt : Nat}
    (hT : QuitsD P qt 0 (G (b₀.at (a₀.put ((ops₀[i₀]?).bind (·.dst)) (.tuple #[])) (.inRegion ops₀ rest₀ :: k₀)) cs)) (w : World) (hK : WgLive L.tWg Wg w) :
    Zg P L.tWg Wg (ZR P L.tWg Wg) 20 (G ((Go.Conc.base L.add).at ⟨#[.pointer (some ⟨Wg, 0, none⟩), .int .i64 (-1), undef, undef, undef, undef, undef, undef, undef, undef, undef, undef, undef, undef, undef, undef, undef, undef, undef, undef, undef, undef, undef, undef, undef, undef, undef, undef, undef, undef, undef, undef, undef, undef, undef, undef, undef, undef, undef, undef, undef, undef, undef, undef, undef, undef, undef, undef, undef, undef, undef, undef, undef, undef, undef, undef, undef, undef, undef, undef, undef, undef, undef, undef, undef, undef, undef, undef, undef, undef, undef, undef, undef, undef, undef, undef, undef, undef, undef, undef, undef, undef, undef, undef, undef, undef, undef, undef, undef, undef, undef, undef, undef, undef, undef, undef, undef, undef, undef, undef, undef, undef, undef, undef, undef, undef, undef, undef, undef, undef, undef, undef, undef, undef, undef, undef, undef], []⟩ [.code (body_add L)]) (b₀.at a₀ (.inRegion ops₀ (i₀ :: rest₀) :: k₀) :: cs)) w := by
  have e : (#[.pointer (some ⟨Wg, 0, none⟩), .int .i64 (-1), undef, undef, undef, undef, undef, undef, undef, undef, undef, undef, undef, undef, undef, undef, undef, undef, undef, undef, undef, undef, undef, undef, undef, undef, undef, undef, undef, undef, undef, undef, undef, undef, undef, undef, undef, undef, undef, undef, undef, undef, undef, undef, undef, undef, undef, undef, undef, undef, undef, undef, undef, undef, undef, undef, undef, undef, undef, undef, undef, undef, undef, undef, undef, undef, undef, undef, undef, undef, undef, undef, undef, undef, undef, undef, undef, undef, undef, undef, undef, undef, undef, undef, undef, undef, undef, undef, undef, undef, undef, undef, undef, undef, undef, undef, undef, undef, undef, undef, undef, undef, undef, undef, undef, undef, undef, undef, undef, undef, undef, undef, undef, undef, undef, undef, undef] : Array Value) = #[.pointer (some ⟨Wg, 0, none⟩), .int .i64 (-1)] ++ Array.replicate 115 undef := by kernel_rfl
  rw [e]
  exact add_goes H hT w hK

set_option maxHeartbeats 8000000 in
set_option maxRecDepth 100000 in
theorem done_goes [Go.ConcR.Payload] {P : Program} {L : WgLink} (H : WgLib P L) {Wg : Nat} {c : Frame} {cs : List Frame} {qt : Nat} (hcm : c.mode = .returning) (hT : QuitsD P qt 0 (G c cs)) (w : World) (hK : WgLive L.tWg Wg w) :
    Zg P L.tWg Wg (ZR P L.tWg Wg) 23 (G ((baseD L.done).at ⟨#[.pointer (some ⟨Wg, 0, none⟩), undef, undef, undef], []⟩ [.code (body_done L)]) (c :: cs)) w := by
  lib_facts
  have hA := @add_goes2 _ P L H Wg
  unfold Zg at hA ⊢
  have key : ∀ {w w₁ : World}, WgLive L.tWg Wg w → RL L.tWg Wg w w₁ → WgLive L.tWg Wg w₁ := fun h r => r h
  simp only [body_done, body_add, doneFn, addFn, Option.getD_some] at hA ⊢
  u_reg key hK
  u_op key hK
  u_in key hK
  refine goes_call rfl rfl (by k_ne) rfl H.f_add (nm_add L) rfl ⟨by u_nil, ?_⟩
  walk_nrmf addFn
  refine hA (qt := qt + 3) ?_ _ hK
  q_c stepG_region_end
  q_c stepG_end
  exact QuitsD.leaveD rfl rfl H.f_done rfl hcm hT

theorem done_enter {P : Program} {L : WgLink} (H : WgLib P L) {v : Value} : Frame.enter P L.done #[v] .deferred = (baseD L.done).at ⟨#[v, undef, undef, undef], []⟩ [.code (body_done L)] := by
  simp [Frame.enter, H.f_done, body_done, doneFn]
  rfl
end Go.PB
